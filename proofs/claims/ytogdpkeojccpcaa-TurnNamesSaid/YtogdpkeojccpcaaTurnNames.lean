/- TurnNames: the walk of the closed law. -/
import Derived.Test.YtogdpkeojccpcaaTurnKeeps
namespace Go.Proofs.Ytogdpkeojccpcaa
set_option linter.all false
open Go.RowKit
attribute [local go_sem ↓] Go.wp_at_zero Go.wp_at_succ

theorem plan_no {w : World} {A A2 : Option Addr} {m mb : Nat} {zs : List Int} {S : Nat → Int} {n E : Int} (h : SPts w A m zs) (hI : ∀ i, i < m → I64 (Pz zs i) ∧ I64 (Bz zs i)) (h2 : IntsW w A2 mb S) (hE : AskIs (Pz zs) (Bz zs) S m mb n E) (h0 : E ≠ 0) (c c2 : Nat) :
    Calls Try.prog 45 #[.slice A m c, .slice A2 mb c2, .int .i64 n] w fun r w' => r = .returned (.tuple #[.slice none 0 0, .int .i64 E]) ∧ Below w.heap.size w w' := by
  refine (plan_any h.h hI h2 c c2 n).mono ?_
  rintro r w' ⟨⟨v, E', rfl, h1, h3, _⟩, hb⟩
  obtain rfl := h1.fun_ hE
  rw [h3 h0]
  exact ⟨rfl, hb⟩
theorem plan_yes {w : World} {A A2 : Option Addr} {m mb N : Nat} {zs : List Int} {S : Nat → Int} {n : Int} (h : SPts w A m zs) (hI : ∀ i, i < m → I64 (Pz zs i) ∧ I64 (Bz zs i)) (h2 : IntsW w A2 mb S) (hn : n.toNat = N) (hE : AskIs (Pz zs) (Bz zs) S m mb n 0) (c c2 : Nat) :
    Calls Try.prog 45 #[.slice A m c, .slice A2 mb c2, .int .i64 n] w fun r w' => (∃ A' c', r = .returned (.tuple #[.slice A' N c', .int .i64 0])) ∧ Below w.heap.size w w' := by
  subst hn
  refine (plan_any h.h hI h2 c c2 n).mono ?_
  rintro r w' ⟨hp, hb⟩
  obtain ⟨A', c', rfl, _⟩ := plan_res hp hE
  rw [if_pos rfl]
  exact ⟨⟨A', c', rfl⟩, hb⟩
theorem ia1 : ∀ i, i < 1 → I64 (Pz [1, 2] i) ∧ I64 (Bz [1, 2] i) := by decide
theorem ia5 : ∀ i, i < 5 → I64 (Pz [1, 2, 1, 2, 1, 2, 1, 2, 1, 2] i) ∧ I64 (Bz [1, 2, 1, 2, 1, 2, 1, 2, 1, 2] i) := by decide
theorem ia3 : ∀ i, i < 1 → I64 (Pz [3, 2] i) ∧ I64 (Bz [3, 2] i) := by decide
theorem ae1 (S : Nat → Int) : AskIs (Pz [1, 2, 1, 2, 1, 2, 1, 2, 1, 2]) (Bz [1, 2, 1, 2, 1, 2, 1, 2, 1, 2]) S 5 5 1 5 := Or.inl ⟨rfl, by decide⟩
theorem ae2 (S : Nat → Int) : AskIs (Pz [1, 2]) (Bz [1, 2]) S 1 1 (-1) 5 := Or.inl ⟨rfl, by decide⟩
theorem ae3 (S : Nat → Int) : AskIs (Pz [1, 2]) (Bz [1, 2]) S 1 1 1001 5 := Or.inl ⟨rfl, by decide⟩
theorem ae4 (S : Nat → Int) : AskIs (Pz [1, 2]) (Bz [1, 2]) S 1 0 1 2 := Or.inr ⟨⟨by decide, by decide, by decide⟩, Or.inl ⟨rfl, Or.inl (by decide)⟩⟩
theorem ae5 : AskIs (Pz [1, 2]) (Bz [1, 2]) (Lz [-1]) 1 1 1 2 := Or.inr ⟨⟨by decide, by decide, by decide⟩, Or.inl ⟨rfl, Or.inr (by decide)⟩⟩
theorem ae6 : AskIs (Pz [1, 2]) (Bz [1, 2]) (Lz [1001]) 1 1 1 2 := Or.inr ⟨⟨by decide, by decide, by decide⟩, Or.inl ⟨rfl, Or.inr (by decide)⟩⟩
theorem ae7 : AskIs (Pz [3, 2]) (Bz [3, 2]) (Lz [0]) 1 1 1 2 := Or.inr ⟨⟨by decide, by decide, by decide⟩, Or.inl ⟨rfl, Or.inr (by decide)⟩⟩
theorem ae8 : AskIs (Pz [1, 2]) (Bz [1, 2]) (Lz [1000]) 1 1 1000 0 := Or.inr ⟨⟨by decide, by decide, by decide⟩, Or.inr ⟨rfl, rfl, by decide⟩⟩
theorem lz_blk {w : World} {g : Nat} {t : TypeId} (bs : List Int) {n : Nat} (hl : bs.length = n) (hb : Blk w g t (bs.map (Value.int .i64)).toArray) : IntsW w (some ⟨g, 0, none⟩) n (Lz bs) := by
  subst hl
  exact ints_blk hb
theorem mk5 (w : World) : (Instr.makeSlice 29 (.int .i64 5) (.int .i64 5)).run Try.prog w = .ok (.slice (some ⟨w.heap.size, 0, none⟩) 5 5) (w.alloc (.cells (arrF (fun _ => 0) 5) 3)) := by kernel_rfl
theorem below_alloc1 (w : World) (o : Obj) : Below w.heap.size w (w.alloc o) := (Below.refl _ _).alloc (Nat.le_refl _) _
/-- Behind all that a world has been brought to. -/
theorem below_step {w x y : World} {o : Obj} (h : Below w.heap.size w x) (hb : Below (x.alloc o).heap.size (x.alloc o) y) : Below w.heap.size w y := h.trans (((below_alloc1 x o).trans (hb.mono (by simp))).mono h.size)
theorem pts_step {x y : World} {A : Option Addr} {n : Nat} {zs : List Int} {o : Obj} (h : SPts x A n zs) (hb : Below (x.alloc o).heap.size (x.alloc o) y) : SPts y A n zs := h.keep ((below_alloc1 x o).trans (hb.mono (by simp)))

/-- Two purses. -/
structure Pq (w x : World) (p q : Nat) (s t : PS) : Prop where
  a : PrP x p s
  b : PrP x q t
  ne : p ≠ q
  bel : Below w.heap.size w x
  ha : w.heap.size ≤ p
  hb : w.heap.size ≤ q
def pn0 : PS := newS 5 1 0
def pn1 : PS := chargeS pn0
def qn1 : PS := leaveS pn0
def qn2 : PS := turnS qn1 5
theorem Pq.keep {w x y : World} {p q : Nat} {s t : PS} (h : Pq w x p q s t) (hb : Below x.heap.size x y) : Pq w y p q s t := ⟨h.a.below hb, h.b.below hb, h.ne, h.bel.trans (hb.mono h.bel.size), h.ha, h.hb⟩
theorem pq_row {w x : World} {p q : Nat} {s t : PS} (h : Pq w x p q s t) (hs : 1 ≤ s.p) (ht : 1 ≤ t.p) {tt : TypeId} : RowV (x.alloc (.cells #[.pointer none, .pointer (some ⟨p, 0, none⟩), .pointer (some ⟨q, 0, none⟩)] tt)) (some ⟨x.heap.size, 0, none⟩) 3
    (fun i => if i = 0 then .pointer none else if i = 1 then .pointer (some ⟨p, 0, none⟩) else .pointer (some ⟨q, 0, none⟩)) (fun i => if i = 0 then ⟨false, 0, 0⟩ else if i = 1 then ⟨s.gn, s.l, s.e⟩ else ⟨t.gn, t.l, t.e⟩) := by
  have hb := Blk.new x tt #[.pointer none, .pointer (some ⟨p, 0, none⟩), .pointer (some ⟨q, 0, none⟩)]
  have hk := h.keep (below_alloc1 x (.cells #[.pointer none, .pointer (some ⟨p, 0, none⟩), .pointer (some ⟨q, 0, none⟩)] tt))
  refine ⟨fun i hi => ⟨x.heap.size, rfl, hb.lt, ?_⟩, fun i hi _ => ?_⟩
  · rw [hb.cell]
    match i, hi with
    | 0, _ => rfl
    | 1, _ => rfl
    | 2, _ => rfl
  · match i, hi with
    | 0, _ => exact Or.inl ⟨Or.inl rfl, rfl⟩
    | 1, _ => exact Or.inr ⟨p, s, rfl, hk.a, hs, rfl⟩
    | 2, _ => exact Or.inr ⟨q, t, rfl, hk.b, ht, rfl⟩
theorem who3 {w x : World} {p q : Nat} {s t : PS} {X : Int} {Y : Bool} (h : Pq w x p q s t) (hs : 1 ≤ s.p) (ht : 1 ≤ t.p) {tt : TypeId} (hX : (((whoF (fun i => if i = 0 then ⟨false, 0, 0⟩ else if i = 1 then ⟨s.gn, s.l, s.e⟩ else ⟨t.gn, t.l, t.e⟩) 3).getD 0 : Nat) : Int) = X)
    (hY : (whoF (fun i => if i = 0 then ⟨false, 0, 0⟩ else if i = 1 then ⟨s.gn, s.l, s.e⟩ else ⟨t.gn, t.l, t.e⟩) 3).isSome = Y) :
    Calls Try.prog 49 #[.slice (some ⟨x.heap.size, 0, none⟩) 3 3] (x.alloc (.cells #[.pointer none, .pointer (some ⟨p, 0, none⟩), .pointer (some ⟨q, 0, none⟩)] tt)) fun r w' => r = .returned (.tuple #[.int .i64 X, .bool Y]) ∧ Pq w w' p q s t := by
  subst hX hY
  refine (who_any (pq_row h hs ht) (Nat.le_refl _)).mono ?_
  rintro r w' ⟨rfl, hb⟩
  exact ⟨rfl, (h.keep (below_alloc1 _ _)).keep hb⟩
theorem who5 {w x : World} {p q : Nat} {s t : PS} {tt : TypeId} (h : Pq w x p q s t) (hs : 1 ≤ s.p) (ht : 1 ≤ t.p) (hsl : s.l = 0) (htg : t.gn = true) :
    Calls Try.prog 49 #[.slice (some ⟨x.heap.size + 1, 0, none⟩) 5 5] ((x.alloc (.cells #[.int .i64 0, .int .i64 0, .int .i64 0, .int .i64 0, .pointer none, .bool false, .bool false, .int .i64 0] 66)).alloc (.cells #[.pointer none, .pointer (some ⟨p, 0, none⟩), .pointer (some ⟨q, 0, none⟩), .pointer (some ⟨x.heap.size, 0, none⟩), .pointer (some ⟨p, 0, none⟩)] tt)) fun r w' => r = .returned (.tuple #[.int .i64 0, .bool false]) ∧ Pq w w' p q s t := by
  have hb := blk_new2 x (.cells #[.int .i64 0, .int .i64 0, .int .i64 0, .int .i64 0, .pointer none, .bool false, .bool false, .int .i64 0] 66) tt #[.pointer none, .pointer (some ⟨p, 0, none⟩), .pointer (some ⟨q, 0, none⟩), .pointer (some ⟨x.heap.size, 0, none⟩), .pointer (some ⟨p, 0, none⟩)]
  have hz := (Blk.new x 66 #[.int .i64 0, .int .i64 0, .int .i64 0, .int .i64 0, .pointer none, .bool false, .bool false, .int .i64 0]).alloc (.cells #[.pointer none, .pointer (some ⟨p, 0, none⟩), .pointer (some ⟨q, 0, none⟩), .pointer (some ⟨x.heap.size, 0, none⟩), .pointer (some ⟨p, 0, none⟩)] tt)
  have hk := h.keep (below_alloc2 x (.cells #[.int .i64 0, .int .i64 0, .int .i64 0, .int .i64 0, .pointer none, .bool false, .bool false, .int .i64 0] 66) (.cells #[.pointer none, .pointer (some ⟨p, 0, none⟩), .pointer (some ⟨q, 0, none⟩), .pointer (some ⟨x.heap.size, 0, none⟩), .pointer (some ⟨p, 0, none⟩)] tt))
  have hrow : RowV ((x.alloc (.cells #[.int .i64 0, .int .i64 0, .int .i64 0, .int .i64 0, .pointer none, .bool false, .bool false, .int .i64 0] 66)).alloc (.cells #[.pointer none, .pointer (some ⟨p, 0, none⟩), .pointer (some ⟨q, 0, none⟩), .pointer (some ⟨x.heap.size, 0, none⟩), .pointer (some ⟨p, 0, none⟩)] tt)) (some ⟨x.heap.size + 1, 0, none⟩) 5
      (fun i => if i = 0 then .pointer none else if i = 1 then .pointer (some ⟨p, 0, none⟩) else if i = 2 then .pointer (some ⟨q, 0, none⟩) else if i = 3 then .pointer (some ⟨x.heap.size, 0, none⟩) else .pointer (some ⟨p, 0, none⟩)) (fun i => if i = 1 then ⟨s.gn, s.l, s.e⟩ else if i = 2 then ⟨t.gn, t.l, t.e⟩ else ⟨false, 0, 0⟩) := by
    refine ⟨fun i hi => ⟨x.heap.size + 1, rfl, hb.lt, ?_⟩, fun i hi h4 => ?_⟩
    · rw [hb.cell]
      match i, hi with
      | 0, _ => rfl
      | 1, _ => rfl
      | 2, _ => rfl
      | 3, _ => rfl
      | 4, _ => rfl
    · match i, h4 with
      | 0, _ => exact Or.inl ⟨Or.inl rfl, rfl⟩
      | 1, _ => exact Or.inr ⟨p, s, rfl, hk.a, hs, rfl⟩
      | 2, _ => exact Or.inr ⟨q, t, rfl, hk.b, ht, rfl⟩
      | 3, _ => exact Or.inl ⟨Or.inr ⟨x.heap.size, rfl, hz⟩, rfl⟩
  have hwho : whoF (fun i => if i = 1 then ⟨s.gn, s.l, s.e⟩ else if i = 2 then ⟨t.gn, t.l, t.e⟩ else ⟨false, 0, 0⟩) (min 5 4) = none := by
    cases hw : whoF (fun i => if i = 1 then (⟨s.gn, s.l, s.e⟩ : SlotV) else if i = 2 then ⟨t.gn, t.l, t.e⟩ else ⟨false, 0, 0⟩) (min 5 4) with
    | none => rfl
    | some j =>
      obtain ⟨_, hc, _⟩ := whoF_some hw
      exfalso
      unfold candW at hc
      try simp only at hc
      split at hc
      · have := hc.2
        simp only at this
        omega
      · split at hc
        · have := hc.1
          simp only at this
          rw [htg] at this
          cases this
        · have := hc.2
          simp at this
  have := who_any hrow (c := 5) (Nat.le_refl _)
  rw [hwho] at this
  refine this.mono ?_
  rintro r w' ⟨rfl, hb⟩
  exact ⟨rfl, hk.keep hb⟩
theorem who_nil (w : World) : Calls Try.prog 49 #[.slice none 0 0] w fun r w' => r = .returned (.tuple #[.int .i64 0, .bool false]) ∧ Below w.heap.size w w' :=
  who_any (f := fun _ => ⟨false, 0, 0⟩) (vs := fun _ => undef) ⟨fun i hi => absurd hi (by omega), fun i hi => absurd hi (by omega)⟩ (Nat.le_refl _)
theorem new5 (w : World) : Calls Try.prog 27 #[.int .i64 5, .int .i64 1, .int .i64 0] w fun r w' => (∃ g, r = .returned (.tuple #[.pointer (some ⟨g, 0, none⟩), .int .i64 0]) ∧ w.heap.size ≤ g ∧ PrP w' g pn0) ∧ Below w.heap.size w w' := by
  refine (new_any 5 1 0 w ⟨by decide, by decide⟩ ⟨by decide, by decide⟩).mono ?_
  rintro r w' ⟨a, rfl, hb, -, hq⟩
  have he : newE 5 1 0 = 0 := by decide
  obtain ⟨g, hg, rfl, hq2⟩ := hq he
  rw [he]
  exact ⟨⟨g, rfl, hg, hq2⟩, hb⟩
theorem pq_charge {w x : World} {p q : Nat} {t : PS} (h : Pq w x p q pn0 t) (ht : t.n = none) : Calls Try.prog 31 #[.pointer (some ⟨p, 0, none⟩)] x fun r w' => r = .returned (.int .i64 0) ∧ Pq w w' p q pn1 t := by
  refine (charge_any h.a (by decide) (by decide)).mono ?_
  rintro r w' ⟨rfl, hq, hu⟩
  exact ⟨rfl, hq, prp_lies.upd h.b ht hu (fun e => h.ne e.symm), h.ne, h.bel.trans (hu.below h.bel.size fun k hk => by rw [hk]; exact h.ha), h.ha, h.hb⟩
theorem pq_leave {w x : World} {p q : Nat} {s : PS} (h : Pq w x p q s pn0) (hs : s.n = none) : Calls Try.prog 39 #[.pointer (some ⟨q, 0, none⟩)] x fun r w' => r = .returned (.int .i64 0) ∧ Pq w w' p q s qn1 := by
  refine (leave_any h.b (by decide)).mono ?_
  rintro r w' ⟨rfl, hq, hu⟩
  exact ⟨rfl, prp_lies.upd h.a hs hu (fun e => h.ne e), hq, h.ne, h.bel.trans (hu.below h.bel.size fun k hk => by rw [hk]; exact h.hb), h.ha, h.hb⟩
theorem pq_turn {w x : World} {p q : Nat} {s : PS} (h : Pq w x p q s qn1) (hs : s.n = none) : Calls Try.prog 28 #[.pointer (some ⟨q, 0, none⟩), .int .i64 5] x fun r w' => r = .returned (.tuple #[.bool true, .int .i64 0]) ∧ Pq w w' p q s qn2 := by
  refine (turn_any (E := 10) (S := 0) 5 h.b ⟨by decide, by decide, by decide, by decide, fun q hq => by cases hq⟩ (by decide) (by decide)).mono ?_
  rintro r w' ⟨rfl, hq, hu⟩
  exact ⟨rfl, prp_lies.upd h.a hs hu (fun e => h.ne e), hq, h.ne, h.bel.trans (hu.below h.bel.size fun k hk => by rw [hk]; exact h.hb), h.ha, h.hb⟩

set_option maxRecDepth 100000 in
set_option maxHeartbeats 16000000 in
theorem turnNames_core (w : World) : Calls Try.prog 14 #[] w (Holds w) := by
  have P1 := Lib.hid True.intro
  have P2 := Lib.hid True.intro
  have P3 := Lib.hid True.intro
  have P4 := Lib.hid True.intro
  have P5 := Lib.hid True.intro
  have P6 := Lib.hid True.intro
  have P7 := Lib.hid True.intro
  have P8 := Lib.hid True.intro
  have V1 := Lib.hid True.intro
  have V2 := Lib.hid True.intro
  have V3 := Lib.hid True.intro
  have W1 := Lib.hid True.intro
  have W2 := Lib.hid True.intro
  have W3 := Lib.hid True.intro
  have N1 := Lib.hid True.intro
  have hmk := mk5
  go_enter Try.func14, Try.ntmps14
  go_wp2_with (first
    | (go_at_call 52; first
        | (have _tk := V1; refine (servers20_list [1, 2] 1 (by rfl) (by rfl) (by decide) (by decide) (Blk.new _ _ _)).mono ?_; rintro r y1 ⟨⟨A, c, rfl, hp, _⟩, hb⟩; have HW := Lib.hid ((below_alloc1 w _).trans (hb.mono (by simp))); have HP := Lib.hid hp; clear hb hp V1 _tk)
        | (have _tk := V2; refine (servers20_list [1, 2, 1, 2, 1, 2, 1, 2, 1, 2] 5 (by rfl) (by rfl) (by decide) (by decide) (Blk.new _ _ _)).mono ?_; rintro r y1 ⟨⟨A5, c5, rfl, hp, _⟩, hb⟩; have HW := Lib.hid (below_step HW.out hb); have HP := Lib.hid (pts_step HP.out hb); have HP5 := Lib.hid hp; clear hb hp V2 _tk)
        | (have _tk := V3; refine (servers20_list [3, 2] 1 (by rfl) (by rfl) (by decide) (by decide) (Blk.new _ _ _)).mono ?_; rintro r y1 ⟨⟨A3, c3, rfl, hp, _⟩, hb⟩; have HW := Lib.hid (below_step HW.out hb); have HP := Lib.hid (pts_step HP.out hb); have HP3 := Lib.hid hp; clear hb hp V3 _tk))
    | (go_at_call 45; first
        | (have _tk := P1; refine (plan_no (HP5.out.keep (below_alloc1 _ _)) ia5 (ints_arr (Blk.new _ _ _)) (ae1 _) (by decide) _ _).mono ?_; rintro r y2 ⟨rfl, hb⟩; have HW := Lib.hid (below_step HW.out hb); have HP := Lib.hid (pts_step HP.out hb); clear hb P1 _tk hmk)
        | (have _tk := P2; refine (plan_no (HP.out.keep (below_alloc1 _ _)) ia1 (lz_blk [0] rfl (Blk.new _ _ _)) (ae2 _) (by decide) _ _).mono ?_; rintro r y2 ⟨rfl, hb⟩; have HW := Lib.hid (below_step HW.out hb); have HP := Lib.hid (pts_step HP.out hb); clear hb P2 _tk)
        | (have _tk := P3; refine (plan_no (HP.out.keep (below_alloc1 _ _)) ia1 (lz_blk [0] rfl (Blk.new _ _ _)) (ae3 _) (by decide) _ _).mono ?_; rintro r y2 ⟨rfl, hb⟩; have HW := Lib.hid (below_step HW.out hb); have HP := Lib.hid (pts_step HP.out hb); clear hb P3 _tk)
        | (have _tk := P4; refine (plan_no HP.out ia1 (IntsW.nil _ _ (fun _ => 0)) (ae4 _) (by decide) _ _).mono ?_; rintro r y2 ⟨rfl, hb⟩; have HW := Lib.hid (HW.out.trans (hb.mono HW.out.size)); have HP := Lib.hid (HP.out.keep hb); clear hb P4 _tk)
        | (have _tk := P5; refine (plan_no (HP.out.keep (below_alloc1 _ _)) ia1 (lz_blk [-1] rfl (Blk.new _ _ _)) ae5 (by decide) _ _).mono ?_; rintro r y2 ⟨rfl, hb⟩; have HW := Lib.hid (below_step HW.out hb); have HP := Lib.hid (pts_step HP.out hb); clear hb P5 _tk)
        | (have _tk := P6; refine (plan_no (HP.out.keep (below_alloc1 _ _)) ia1 (lz_blk [1001] rfl (Blk.new _ _ _)) ae6 (by decide) _ _).mono ?_; rintro r y2 ⟨rfl, hb⟩; have HW := Lib.hid (below_step HW.out hb); have HP := Lib.hid (pts_step HP.out hb); clear hb P6 _tk)
        | (have _tk := P7; refine (plan_no (HP3.out.keep (below_alloc1 _ _)) ia3 (lz_blk [0] rfl (Blk.new _ _ _)) ae7 (by decide) _ _).mono ?_; rintro r y2 ⟨rfl, hb⟩; have HW := Lib.hid (below_step HW.out hb); have HP := Lib.hid (pts_step HP.out hb); clear hb P7 _tk)
        | (have _tk := P8; refine (plan_yes (N := 1000) (HP.out.keep (below_alloc1 _ _)) ia1 (lz_blk [1000] rfl (Blk.new _ _ _)) rfl ae8 _ _).mono ?_; rintro r y2 ⟨⟨A8, c8, rfl⟩, hb⟩; have HW := Lib.hid (below_step HW.out hb); clear hb P8 _tk))
    | (go_at_call 27; first
        | (have _tk := N1; refine (new5 _).mono ?_; rintro r y3 ⟨⟨p, rfl, hg, hq⟩, hb⟩; have HQ := Lib.hid (And.intro (Nat.le_trans HW.out.size hg) (And.intro hq (HW.out.trans (hb.mono HW.out.size)))); clear hg hq hb N1 _tk)
        | (refine (new5 _).mono ?_; rintro r y3 ⟨⟨q, rfl, hg, hq⟩, hb⟩
           have HJ : Hid (Pq w y3 p q pn0 pn0) := ⟨HQ.out.2.1.below hb, hq, by have := HQ.out.2.1.lt; omega, HQ.out.2.2.trans (hb.mono HQ.out.2.2.size), HQ.out.1, Nat.le_trans HQ.out.2.2.size hg⟩
           clear hg hq hb))
    | (go_at_call 31; refine (pq_charge HJ.out rfl).mono ?_; rintro r y4 ⟨rfl, hj⟩; have HJ := Lib.hid hj; clear hj)
    | (go_at_call 39; refine (pq_leave HJ.out rfl).mono ?_; rintro r y4 ⟨rfl, hj⟩; have HJ := Lib.hid hj; clear hj)
    | (go_at_call 28; refine (pq_turn HJ.out rfl).mono ?_; rintro r y4 ⟨rfl, hj⟩; have HJ := Lib.hid hj; clear hj)
    | (go_at_call 49; first
        | (have _tk := W1; refine (who3 (X := 1) (Y := true) HJ.out (by decide) (by decide) (by decide) (by decide)).mono ?_; rintro r y5 ⟨rfl, hj⟩; have HJ := Lib.hid hj; clear hj W1 _tk)
        | (have _tk := W2; refine (who3 (X := 2) (Y := true) HJ.out (by decide) (by decide) (by decide) (by decide)).mono ?_; rintro r y5 ⟨rfl, hj⟩; have HJ := Lib.hid hj; clear hj W2 _tk)
        | (have _tk := W3; refine (who5 HJ.out (by decide) (by decide) (by decide) (by decide)).mono ?_; rintro r y5 ⟨rfl, hj⟩; have HJ := Lib.hid hj; have W4 := Lib.hid True.intro; clear hj W3 _tk)
        | (have _tk := W4; refine (who_nil _).mono ?_; rintro r y6 ⟨rfl, hb⟩; have HX := Lib.hid (HJ.out.bel.trans (hb.mono HJ.out.bel.size)); clear hb W4 _tk))
    | (go_at_call 48; refine (turn_works _).mono ?_; rintro r y7 ⟨rfl, hb⟩; have HY := Lib.hid (HX.out.trans (hb.mono HX.out.size)); clear hb))
  go_ret
  exact ⟨rfl, HY.out⟩
end Go.Proofs.Ytogdpkeojccpcaa
