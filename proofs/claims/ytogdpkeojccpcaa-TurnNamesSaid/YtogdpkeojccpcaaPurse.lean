/- Contracts of package purse: what only looks. -/
import Derived.Test.YtogdpkeojccpcaaShareLaw
namespace Go.Proofs.Ytogdpkeojccpcaa
set_option linter.all false
open Go.RowKit

/-- How a purse stands. -/
structure PS where
  p : Int
  b : Int
  l : Int
  e : Int
  n : Option (Int × Int)
  lv : Bool
  gn : Bool
  sh : Int

def Nx (w : World) : Option Addr → Option (Int × Int) → Prop
  | none, none => True
  | some a, some q => ∃ k, a = ⟨k, 0, none⟩ ∧ Blk w k 63 #[.int .i64 q.1, .int .i64 q.2]
  | _, _ => False

def PrP (w : World) (g : Nat) (s : PS) : Prop :=
  ∃ np, Blk w g 66 #[.int .i64 s.p, .int .i64 s.b, .int .i64 s.l, .int .i64 s.e, .pointer np, .bool s.lv, .bool s.gn, .int .i64 s.sh] ∧ Nx w np s.n

/-- Numbers that a purse may have, of at most so many calls. -/
structure POk (E S : Int) (s : PS) : Prop where
  ok : OkP s.p s.b
  l : 0 ≤ s.l ∧ s.l ≤ 64
  e : 0 ≤ s.e ∧ s.e ≤ E
  sh : 0 ≤ s.sh ∧ s.sh ≤ S
  n : ∀ q, s.n = some q → OkP q.1 q.2

def settE (s : PS) : Int := if s.gn || s.lv || s.n.isSome then 250 else 0
def chargeE (s : PS) : Int := if s.gn then 250 else if s.l = 0 then 8 else 0
def chargeS (s : PS) : PS := if s.gn || decide (s.l = 0) then s else { s with l := s.l - 1 }
def turnB (s : PS) (t : Int) : Bool := !s.gn && decide (s.e = t)
def turnE (s : PS) (t : Int) : Int := if s.gn || decide (s.e < t) then 250 else 0
def turnS (s : PS) (t : Int) : PS :=
  if turnB s t then
    if s.lv then { s with sh := s.sh + s.l, l := 0, gn := true }
    else match s.n with
      | none => { s with sh := s.sh + s.l, l := s.b, e := t + s.p }
      | some q => { s with p := q.1, b := q.2, sh := s.sh + s.l, l := q.2, e := t + q.1, n := none }
  else s
def changeE (s : PS) (p b : Int) : Int := if settE s = 0 then (if OkP p b then 0 else 2) else 250
def changeS (s : PS) (p b : Int) : PS := if settE s = 0 ∧ OkP p b then { s with n := some (p, b) } else s
def leaveE (s : PS) : Int := settE s
def leaveS (s : PS) : PS := if settE s = 0 then { s with lv := true } else s
def waitsB (s : PS) : Bool := !s.gn && (s.lv || s.n.isSome)
def newE (p b t : Int) : Int := if OkP p b ∧ 0 ≤ t then (if t ≤ 1099511627776 then 0 else 10) else 2
def newS (p b t : Int) : PS := ⟨p, b, b, t + p, none, false, false, 0⟩

theorem Nx.upd {S : Nat → Prop} {w w' : World} {np : Option Addr} {n : Option (Int × Int)} (h : Nx w np n) (hu : Upd S w w') (hs : ∀ k a b, Blk w k 63 #[a, b] → ¬ S k) : Nx w' np n := by
  cases np with
  | none => cases n with
    | none => trivial
    | some q => exact h
  | some a => cases n with
    | none => exact h
    | some q => obtain ⟨k, hk, hb⟩ := h; exact ⟨k, hk, hb.upd hu (hs _ _ _ hb)⟩
theorem PrP.upd {S : Nat → Prop} {w w' : World} {g : Nat} {s : PS} (h : PrP w g s) (hu : Upd S w w') (hg : ¬ S g) (hs : ∀ k a b, Blk w k 63 #[a, b] → ¬ S k) : PrP w' g s := by
  obtain ⟨np, h1, h2⟩ := h
  exact ⟨np, h1.upd hu hg, h2.upd hu hs⟩
theorem PrP.below {w w' : World} {g : Nat} {s : PS} (h : PrP w g s) (hb : Below w.heap.size w w') : PrP w' g s := by
  obtain ⟨np, h1, h2⟩ := h
  refine ⟨np, h1.below hb h1.lt, ?_⟩
  refine h2.upd (Upd.of_below hb) ?_
  intro k a b hk
  have := hk.lt
  omega
theorem PrP.lt {w : World} {g : Nat} {s : PS} (h : PrP w g s) : g < w.heap.size := h.choose_spec.1.lt

theorem may_any (p b : Int) (w : World) :
    Calls Try.prog 56 #[.agg #[.int .i64 p, .int .i64 b]] w fun r w' => r = .returned (.bool (decide (OkP p b))) ∧ Below w.heap.size w w' := by
  by_cases hk : OkP p b
  · rw [decide_eq_true hk]
    obtain ⟨h1, h2, h3, h4⟩ := hk
    go_enter Try.func56, Try.ntmps56
    go_wp2_with fail
    go_ret
    exact ⟨ret_bool (by simp <;> omega), (Below.refl _ _).alloc (Nat.le_refl _) _⟩
  · rw [decide_eq_false hk]
    have HK := Lib.hid hk
    clear hk
    go_enter Try.func56, Try.ntmps56
    go_wp2_with fail
    all_goals go_ret
    all_goals
      refine ⟨ret_bool ?_, (Below.refl _ _).alloc (Nat.le_refl _) _⟩
      have := HK.out
      unfold OkP at this
      simp
      try omega

theorem none_any {w : World} {g : Nat} {s : PS} (h : PrP w g s) (hp : 1 ≤ s.p) :
    Calls Try.prog 57 #[.pointer (some ⟨g, 0, none⟩)] w fun r w' => r = .returned (.bool false) ∧ w = w' := by
  obtain ⟨np, hb, _⟩ := h
  have c0 := hb.cell 0
  have c1 := hb.cell 1
  simp at c0 c1
  have hne : (s.p == 0) = false := by simp; omega
  clear hb
  go_enter Try.func57, Try.ntmps57
  go_wp2_with fail
  go_ret
  exact ⟨rfl, rfl⟩

theorem left_any {w : World} {g : Nat} {s : PS} (h : PrP w g s) (hp : 1 ≤ s.p) :
    Calls Try.prog 32 #[.pointer (some ⟨g, 0, none⟩)] w fun r w' => r = .returned (.int .i64 s.l) ∧ w = w' := by
  have H := Lib.hid h
  have HP := Lib.hid hp
  obtain ⟨np, hb, _⟩ := h
  have c2 := hb.cell 2
  simp at c2
  clear hb hp
  go_enter Try.func32, Try.ntmps32
  go_wp2_with (go_at_call 57; refine (none_any H.out HP.out).mono ?_; rintro r w1 ⟨rfl, rfl⟩)
  go_ret
  exact ⟨rfl, rfl⟩

theorem ends_any {w : World} {g : Nat} {s : PS} (h : PrP w g s) (hp : 1 ≤ s.p) :
    Calls Try.prog 34 #[.pointer (some ⟨g, 0, none⟩)] w fun r w' => r = .returned (.int .i64 s.e) ∧ w = w' := by
  have H := Lib.hid h
  have HP := Lib.hid hp
  obtain ⟨np, hb, _⟩ := h
  have c3 := hb.cell 3
  simp at c3
  clear hb hp
  go_enter Try.func34, Try.ntmps34
  go_wp2_with (go_at_call 57; refine (none_any H.out HP.out).mono ?_; rintro r w1 ⟨rfl, rfl⟩)
  go_ret
  exact ⟨rfl, rfl⟩

theorem short_any {w : World} {g : Nat} {s : PS} (h : PrP w g s) (hp : 1 ≤ s.p) :
    Calls Try.prog 33 #[.pointer (some ⟨g, 0, none⟩)] w fun r w' => r = .returned (.int .i64 s.sh) ∧ w = w' := by
  have H := Lib.hid h
  have HP := Lib.hid hp
  obtain ⟨np, hb, _⟩ := h
  have c7 := hb.cell 7
  simp at c7
  clear hb hp
  go_enter Try.func33, Try.ntmps33
  go_wp2_with (go_at_call 57; refine (none_any H.out HP.out).mono ?_; rintro r w1 ⟨rfl, rfl⟩)
  go_ret
  exact ⟨rfl, rfl⟩

theorem gone_any {w : World} {g : Nat} {s : PS} (h : PrP w g s) (hp : 1 ≤ s.p) :
    Calls Try.prog 43 #[.pointer (some ⟨g, 0, none⟩)] w fun r w' => r = .returned (.bool s.gn) ∧ w = w' := by
  have H := Lib.hid h
  have HP := Lib.hid hp
  obtain ⟨np, hb, _⟩ := h
  have c6 := hb.cell 6
  simp at c6
  clear hb hp
  go_enter Try.func43, Try.ntmps43
  go_wp2_with (go_at_call 57; refine (none_any H.out HP.out).mono ?_; rintro r w1 ⟨rfl, rfl⟩)
  go_ret
  exact ⟨rfl, rfl⟩

set_option maxHeartbeats 1000000 in
theorem is_any {w : World} {g : Nat} {s : PS} (h : PrP w g s) (hp : 1 ≤ s.p) :
    Calls Try.prog 29 #[.pointer (some ⟨g, 0, none⟩)] w fun r w' => r = .returned (.tuple #[.int .i64 s.p, .int .i64 s.b]) ∧ Below w.heap.size w w' := by
  have H := Lib.hid h
  have HP := Lib.hid hp
  obtain ⟨np, hb, _⟩ := h
  have c0 := hb.cell 0
  have c1 := hb.cell 1
  simp at c0 c1
  clear hb hp
  go_enter Try.func29, Try.ntmps29
  go_wp2_with (go_at_call 57; refine (none_any H.out HP.out).mono ?_; rintro r w1 ⟨rfl, rfl⟩)
  go_quiet (fail)
  go_wp2_with fail
  go_ret2
  exact ⟨rfl, belowN (Below.refl _ _) _⟩

set_option maxHeartbeats 1000000 in
theorem waits_any {w : World} {g : Nat} {s : PS} (h : PrP w g s) (hp : 1 ≤ s.p) :
    Calls Try.prog 42 #[.pointer (some ⟨g, 0, none⟩)] w fun r w' => r = .returned (.bool (waitsB s)) ∧ w = w' := by
  have H := Lib.hid h
  have HP := Lib.hid hp
  obtain ⟨np, hb, hnx⟩ := h
  have c4 := hb.cell 4
  have c5 := hb.cell 5
  have c6 := hb.cell 6
  simp at c4 c5 c6
  clear hb hp
  obtain ⟨p, b, l, e, n, lv, gn, sh⟩ := s
  unfold waitsB
  simp only at c4 c5 c6 hnx ⊢
  cases np with
  | none => cases n with
    | some q => exact hnx.elim
    | none =>
      clear hnx
      cases gn <;> cases lv
      all_goals
        go_enter Try.func42, Try.ntmps42
        go_wp2_with (go_at_call 57; refine (none_any H.out HP.out).mono ?_; rintro r w1 ⟨rfl, rfl⟩)
        go_ret
        exact ⟨rfl, rfl⟩
  | some a => cases n with
    | none => exact hnx.elim
    | some q =>
      clear hnx
      cases gn <;> cases lv
      all_goals
        go_enter Try.func42, Try.ntmps42
        go_wp2_with (go_at_call 57; refine (none_any H.out HP.out).mono ?_; rintro r w1 ⟨rfl, rfl⟩)
        go_ret
        exact ⟨rfl, rfl⟩

set_option maxHeartbeats 1000000 in
theorem settled_any {w : World} {g : Nat} {s : PS} (h : PrP w g s) (hp : 1 ≤ s.p) :
    Calls Try.prog 58 #[.pointer (some ⟨g, 0, none⟩)] w fun r w' => r = .returned (.int .i64 (settE s)) ∧ w = w' := by
  have H := Lib.hid h
  have HP := Lib.hid hp
  obtain ⟨np, hb, hnx⟩ := h
  have c4 := hb.cell 4
  have c5 := hb.cell 5
  have c6 := hb.cell 6
  simp at c4 c5 c6
  clear hb hp
  obtain ⟨p, b, l, e, n, lv, gn, sh⟩ := s
  unfold settE
  simp only at c4 c5 c6 hnx ⊢
  cases np with
  | none => cases n with
    | some q => exact hnx.elim
    | none =>
      clear hnx
      cases gn <;> cases lv
      all_goals
        go_enter Try.func58, Try.ntmps58
        go_wp2_with (go_at_call 57; refine (none_any H.out HP.out).mono ?_; rintro r w1 ⟨rfl, rfl⟩)
        go_ret
        exact ⟨rfl, rfl⟩
  | some a => cases n with
    | none => exact hnx.elim
    | some q =>
      clear hnx
      cases gn <;> cases lv
      all_goals
        go_enter Try.func58, Try.ntmps58
        go_wp2_with (go_at_call 57; refine (none_any H.out HP.out).mono ?_; rintro r w1 ⟨rfl, rfl⟩)
        go_ret
        exact ⟨rfl, rfl⟩

set_option maxHeartbeats 1000000 in
theorem new_any (p b t : Int) (w : World) (hp : I64 p) (ht : I64 t) :
    Calls Try.prog 27 #[.int .i64 p, .int .i64 b, .int .i64 t] w fun r w' => ∃ a, r = .returned (.tuple #[.pointer a, .int .i64 (newE p b t)]) ∧ Below w.heap.size w w' ∧ (newE p b t ≠ 0 → a = none) ∧ (newE p b t = 0 → ∃ g, w.heap.size ≤ g ∧ a = some ⟨g, 0, none⟩ ∧ PrP w' g (newS p b t)) := by
  obtain ⟨p1, p2⟩ := hp
  obtain ⟨t1, t2⟩ := ht
  by_cases hk : OkP p b
  · have hd : decide (OkP p b) = true := decide_eq_true hk
    have hkk := hk
    obtain ⟨k1, k2, k3, k4⟩ := hk
    by_cases h0 : 0 ≤ t
    · by_cases hm : t ≤ 1099511627776
      · have he : newE p b t = 0 := by unfold newE; rw [if_pos ⟨hkk, h0⟩, if_pos hm]
        rw [he]
        clear he hkk
        go_enter Try.func27, Try.ntmps27
        go_wp2_with (go_at_call 56; refine (may_any _ _ _).mono ?_; rintro r w1 ⟨rfl, hy⟩; rw [hd]; have y1 := (Blk.new w 63 #[.int .i64 p, .int .i64 b]).below hy (by simp); have y0 := y1.cell 0; have y2 := y1.cell 1; simp at y0 y2; have HY := Lib.hid (And.intro hy y1); clear hy y1)
        go_ret2
        have hs : w.heap.size ≤ w1.heap.size := by have := HY.out.1.size; simp at this; omega
        refine ⟨some ⟨w1.heap.size, 0, none⟩, rfl, (((Below.refl _ _).alloc (Nat.le_refl _) _).trans (HY.out.1.mono (by simp))).alloc hs _, fun h => absurd rfl h, fun _ => ⟨_, hs, rfl, none, ?_, trivial⟩⟩
        exact Blk.new _ _ _
      · have he : newE p b t = 10 := by unfold newE; rw [if_pos ⟨hkk, h0⟩, if_neg hm]
        rw [he]
        clear he hkk
        go_enter Try.func27, Try.ntmps27
        go_wp2_with (go_at_call 56; refine (may_any _ _ _).mono ?_; rintro r w1 ⟨rfl, hy⟩; rw [hd]; have y1 := (Blk.new w 63 #[.int .i64 p, .int .i64 b]).below hy (by simp); have y0 := y1.cell 0; have y2 := y1.cell 1; simp at y0 y2; have HY := Lib.hid (And.intro hy y1); clear hy y1)
        go_ret2; exact ⟨none, rfl, ((Below.refl _ _).alloc (Nat.le_refl _) _).trans (HY.out.1.mono (by simp)), fun _ => rfl, fun h => absurd h (by decide)⟩
    · have he : newE p b t = 2 := by unfold newE; rw [if_neg (fun h => h0 h.2)]
      rw [he]
      clear he hkk
      go_enter Try.func27, Try.ntmps27
      go_wp2_with (go_at_call 56; refine (may_any _ _ _).mono ?_; rintro r w1 ⟨rfl, hy⟩; rw [hd]; have y1 := (Blk.new w 63 #[.int .i64 p, .int .i64 b]).below hy (by simp); have y0 := y1.cell 0; have y2 := y1.cell 1; simp at y0 y2; have HY := Lib.hid (And.intro hy y1); clear hy y1)
      go_ret2; exact ⟨none, rfl, ((Below.refl _ _).alloc (Nat.le_refl _) _).trans (HY.out.1.mono (by simp)), fun _ => rfl, fun h => absurd h (by decide)⟩
  · have hd : decide (OkP p b) = false := decide_eq_false hk
    have he : newE p b t = 2 := by unfold newE; rw [if_neg (fun h => hk h.1)]
    rw [he]
    clear he hk
    go_enter Try.func27, Try.ntmps27
    go_wp2_with (go_at_call 56; refine (may_any _ _ _).mono ?_; rintro r w1 ⟨rfl, hy⟩; rw [hd]; have y1 := (Blk.new w 63 #[.int .i64 p, .int .i64 b]).below hy (by simp); have y0 := y1.cell 0; have y2 := y1.cell 1; simp at y0 y2; have HY := Lib.hid (And.intro hy y1); clear hy y1)
    go_ret2; exact ⟨none, rfl, ((Below.refl _ _).alloc (Nat.le_refl _) _).trans (HY.out.1.mono (by simp)), fun _ => rfl, fun h => absurd h (by decide)⟩
end Go.Proofs.Ytogdpkeojccpcaa
