/- Plain law of purses: numbers stay small; both stand alike through a call. PurseBegins: the walk. -/
import Derived.Test.YtogdpkeojccpcaaPurseW
namespace Go.Proofs.Ytogdpkeojccpcaa
set_option linter.all false
open Go.RowKit

theorem POk.mono {E S E' S' : Int} {s : PS} (h : POk E S s) (hE : E ≤ E') (hS : S ≤ S') : POk E' S' s :=
  ⟨h.ok, h.l, ⟨h.e.1, by have := h.e.2; omega⟩, ⟨h.sh.1, by have := h.sh.2; omega⟩, h.n⟩
theorem POk.charge {E S : Int} {s : PS} (h : POk E S s) : POk E S (chargeS s) := by
  unfold chargeS
  split
  · exact h
  · rename_i hc
    have := h.l
    simp at hc
    exact ⟨h.ok, ⟨by show 0 ≤ s.l - 1; omega, by show s.l - 1 ≤ 64; omega⟩, h.e, h.sh, h.n⟩
theorem POk.leave {E S : Int} {s : PS} (h : POk E S s) : POk E S (leaveS s) := by
  unfold leaveS
  split
  · exact ⟨h.ok, h.l, h.e, h.sh, h.n⟩
  · exact h
theorem POk.change {E S : Int} {s : PS} (h : POk E S s) (p b : Int) : POk E S (changeS s p b) := by
  unfold changeS
  split
  · rename_i hc
    exact ⟨h.ok, h.l, h.e, h.sh, fun q hq => by cases hq; exact hc.2⟩
  · exact h
theorem POk.turn {E S : Int} {s : PS} (h : POk E S s) (t : Int) : POk (E + 64) (S + 64) (turnS s t) := by
  obtain ⟨⟨p1, p2, b1, b2⟩, ⟨l1, l2⟩, ⟨e1, e2⟩, ⟨s1, s2⟩, hn⟩ := h
  obtain ⟨p, b, l, e, n, lv, gn, sh⟩ := s
  unfold turnS turnB
  simp only at p1 p2 b1 b2 l1 l2 e1 e2 s1 s2 hn ⊢
  split
  · rename_i hc
    simp at hc
    split
    · exact ⟨⟨p1, p2, b1, b2⟩, ⟨Int.le_refl _, by show (0 : Int) ≤ 64; decide⟩, ⟨e1, by show e ≤ E + 64; omega⟩, ⟨by show 0 ≤ sh + l; omega, by show sh + l ≤ S + 64; omega⟩, hn⟩
    · split
      · exact ⟨⟨p1, p2, b1, b2⟩, ⟨by show 0 ≤ b; omega, by show b ≤ 64; omega⟩, ⟨by show 0 ≤ t + p; omega, by show t + p ≤ E + 64; omega⟩, ⟨by show 0 ≤ sh + l; omega, by show sh + l ≤ S + 64; omega⟩, fun q hq => by cases hq⟩
      · rename_i q
        obtain ⟨q1, q2, q3, q4⟩ := hn q rfl
        exact ⟨⟨q1, q2, q3, q4⟩, ⟨by show 0 ≤ q.2; omega, by show q.2 ≤ 64; omega⟩, ⟨by show 0 ≤ t + q.1; omega, by show t + q.1 ≤ E + 64; omega⟩, ⟨by show 0 ≤ sh + l; omega, by show sh + l ≤ S + 64; omega⟩, fun q hq => by cases hq⟩
  · exact ⟨⟨p1, p2, b1, b2⟩, ⟨l1, l2⟩, ⟨e1, by show e ≤ E + 64; omega⟩, ⟨s1, by show sh ≤ S + 64; omega⟩, hn⟩
theorem POk.new {p b t : Int} (h : newE p b t = 0) : POk (t + 64) 0 (newS p b t) := by
  unfold newE at h
  split at h
  · rename_i hk
    obtain ⟨⟨p1, p2, b1, b2⟩, h0⟩ := hk
    exact ⟨⟨p1, p2, b1, b2⟩, ⟨by show 0 ≤ b; omega, by show b ≤ 64; omega⟩, ⟨by show 0 ≤ t + p; omega, by show t + p ≤ t + 64; omega⟩, ⟨Int.le_refl _, Int.le_refl _⟩, fun q hq => by cases hq⟩
  · exact absurd h (by decide)

/-- Both stand alike. -/
structure PJ (w0 w : World) (g g' : Nat) (s : PS) (k : Nat) : Prop where
  p : PrP w g s
  r : RfP w g' s
  o : POk (67 + 64 * k) (64 * k) s
  b : Below w0.heap.size w0 w
  gl : w0.heap.size ≤ g
  gl' : w0.heap.size ≤ g'
/-- The program's has moved. -/
structure PM (w0 w : World) (g g' : Nat) (s s1 : PS) : Prop where
  p : PrP w g s1
  r : RfP w g' s
  b : Below w0.heap.size w0 w
  gl : w0.heap.size ≤ g
  gl' : w0.heap.size ≤ g'
theorem PJ.below {w0 w w' : World} {g g' k : Nat} {s : PS} (h : PJ w0 w g g' s k) (hb : Below w.heap.size w w') : PJ w0 w' g g' s k :=
  ⟨h.p.below hb, h.r.below hb, h.o, h.b.trans (hb.mono h.b.size), h.gl, h.gl'⟩
theorem PJ.alloc {w0 w : World} {g g' k : Nat} {s : PS} (h : PJ w0 w g g' s k) (o : Obj) : PJ w0 (w.alloc o) g g' s k := h.below ((Below.refl _ _).alloc (Nat.le_refl _) _)
theorem PJ.drew {w0 w : World} {g g' k : Nat} {s : PS} (h : PJ w0 w g g' s k) : PJ w0 w.drew g g' s k := ⟨h.p, h.r, h.o, h.b.drew, h.gl, h.gl'⟩
theorem PJ.more {w0 w : World} {g g' k : Nat} {s : PS} (h : PJ w0 w g g' s k) : PJ w0 w g g' s (k + 1) :=
  ⟨h.p, h.r, h.o.mono (by omega) (by omega), h.b, h.gl, h.gl'⟩
theorem PJ.mid {w0 w w1 : World} {g g' k : Nat} {s s1 : PS} (h : PJ w0 w g g' s k) (hp : PrP w1 g s1) (hu : Upd (fun k => k = g ∨ w.heap.size ≤ k) w w1) : PM w0 w1 g g' s s1 :=
  ⟨hp, h.r.updP h.p hu, below_two h.b h.gl hu, h.gl, h.gl'⟩
theorem PJ.mid1 {w0 w w1 : World} {g g' k : Nat} {s s1 : PS} (h : PJ w0 w g g' s k) (hp : PrP w1 g s1) (hu : Upd (· = g) w w1) : PM w0 w1 g g' s s1 :=
  h.mid hp (hu.mono fun _ e => Or.inl e)
theorem PM.fin {w0 w w1 : World} {g g' k : Nat} {s s1 : PS} (h : PM w0 w g g' s s1) (hr : RfP w1 g' s1) (hu : Upd (· = g') w w1) (ho : POk (67 + 64 * k) (64 * k) s1) : PJ w0 w1 g g' s1 k :=
  ⟨h.p.updR h.r hu, hr, ho, below_one h.b h.gl' hu, h.gl, h.gl'⟩
theorem PJ.pp {w0 w : World} {g g' k : Nat} {s : PS} (h : PJ w0 w g g' s k) : 1 ≤ s.p := h.o.ok.1

set_option maxRecDepth 100000 in
set_option maxHeartbeats 4000000 in
theorem purseBegins_core (w : World) (a0 : Int) (h0 : -9223372036854775808 ≤ a0 ∧ a0 ≤ 9223372036854775807) (a1 : Int) (h1 : -9223372036854775808 ≤ a1 ∧ a1 ≤ 9223372036854775807) (a2 : Int) (h2 : -9223372036854775808 ≤ a2 ∧ a2 ≤ 9223372036854775807) :
    Calls Try.prog 9 #[.int .i64 a0, .int .i64 a1, .int .i64 a2] w (Holds w) := by
  obtain ⟨e, he⟩ : ∃ e, newE a0 a1 a2 = e := ⟨_, rfl⟩
  by_cases hz : e = 0
  · subst hz
    have HE := Lib.hid he
    have HO := Lib.hid (POk.new he)
    have hpp := (POk.new he).ok.1
    have HPP := Lib.hid hpp
    clear he hpp
    go_enter Try.func9, Try.ntmps9
    go_wp2_with (first
      | (go_at_call 27; refine (new_any _ _ _ _ h0 h2).mono ?_; rintro r x1 ⟨a, rfl, hb, -, hq⟩; obtain ⟨g, hg, rfl, hp⟩ := hq HE.out; rw [HE.out]; have HG := Lib.hid (And.intro hg (And.intro hp hb)); clear hg hp hb hq)
      | (go_at_call 35; refine (rnew_any _ _ _ _ h0 h2).mono ?_; rintro r x2 ⟨a, rfl, hb, -, hq⟩; obtain ⟨g', hg, rfl, hp⟩ := hq HE.out; rw [HE.out]; have HR := Lib.hid (And.intro hg (And.intro hp hb)); clear hg hp hb hq)
      | (go_at_call 41; refine (same_any (HG.out.2.1.below HR.out.2.2) HR.out.2.1 HPP.out).mono ?_; rintro r x3 ⟨rfl, hb⟩; have HS := Lib.hid hb; clear hb)
      | (go_at_call 26; refine (purse_works _).mono ?_; rintro r x4 ⟨rfl, hb⟩; have HT := Lib.hid hb; clear hb))
    go_ret
    have z1 := HG.out.2.2
    have z2 := z1.trans (HR.out.2.2.mono z1.size)
    have z3 := z2.trans (HS.out.mono z2.size)
    exact ⟨rfl, z3.trans (HT.out.mono z3.size)⟩
  · have h3 : e = 2 ∨ e = 10 := by
      subst he
      unfold newE at hz ⊢
      split
      · split
        · rename_i h h'; rw [if_pos h, if_pos h'] at hz; exact absurd rfl hz
        · right; rfl
      · left; rfl
    have HE := Lib.hid he
    clear he hz
    rcases h3 with rfl | rfl
    all_goals
      go_enter Try.func9, Try.ntmps9
      go_wp2_with (first
        | (go_at_call 27; refine (new_any _ _ _ _ h0 h2).mono ?_; rintro r x1 ⟨a, rfl, hb, hp, -⟩; obtain rfl := hp (by rw [HE.out]; decide); rw [HE.out]; have HG := Lib.hid hb; clear hp hb)
        | (go_at_call 35; refine (rnew_any _ _ _ _ h0 h2).mono ?_; rintro r x2 ⟨a, rfl, hb, hp, -⟩; obtain rfl := hp (by rw [HE.out]; decide); rw [HE.out]; have HR := Lib.hid hb; clear hp hb)
        | (go_at_call 26; refine (purse_works _).mono ?_; rintro r x4 ⟨rfl, hb⟩; have HT := Lib.hid hb; clear hb))
      go_ret
      have z1 := HG.out
      have z2 := z1.trans (HR.out.mono z1.size)
      exact ⟨rfl, z2.trans (HT.out.mono z2.size)⟩
end Go.Proofs.Ytogdpkeojccpcaa
