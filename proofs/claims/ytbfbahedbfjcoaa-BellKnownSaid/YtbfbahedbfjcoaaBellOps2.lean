/- The walks of Cancel, At, Next, Count, Due. -/
import Derived.Test.YtbfbahedbfjcoaaBellOps
namespace Go.Proofs.Ytbfbahedbfjcoaa
set_option linter.all false
open Go.RowKit
attribute [local go_sem ↓] Go.wp_at_zero Go.wp_at_succ

def canE (L : BL) (kind id : Int) : Bool := decide (MayB kind id) && (lk L (plB kind id)).isSome
def canL (L : BL) (kind id : Int) : BL := if MayB kind id then rmL (plB kind id) L else L
theorem can_ok {L : BL} (h : OkL L) (kind id : Int) : OkL (canL L kind id) := by
  unfold canL; split
  · exact rm_ok h _
  · exact h
theorem BlJ.drew {w : World} {F : Nat → Prop} {gb : Nat} {L : BL} (hj : BlJ w F gb L) : BlJ w.drew F gb L := hj.keep (Below.refl w.heap.size w).drew

set_option maxRecDepth 100000 in
set_option maxHeartbeats 8000000 in
theorem cancel_may {w : World} {F : Nat → Prop} {gb : Nat} {L : BL} (hj : BlJ w F gb L) (kind id : Int) (hm : MayB kind id) :
    Calls Try.prog 11 #[.pointer (some ⟨gb, 0, none⟩), .int .i64 kind, .int .i64 id] w fun r w' => r = .returned (.bool (canE L kind id)) ∧ BlJ w' F gb (canL L kind id) ∧ Upd F w w' := by
  obtain ⟨Fi, g, h, s, h1, h2, h3, h4, h5⟩ := hj.ex
  have hlen := ok_len hj.ok
  have hge : w.cell? ⟨gb, 0, none⟩ = some (.pointer (some ⟨g, 0, none⟩)) := h1.cell 0
  have HJ := Lib.hid hj
  have HB := Lib.hid h1
  have HR := Lib.hid h2
  have HF := Lib.hid (And.intro h3 (And.intro h4 h5))
  have HL := Lib.hid hlen
  clear hj h1 h2 h3 h4 h5 hlen
  · have e2 : canL L kind id = rmL (plB kind id) L := by unfold canL; rw [if_pos hm]
    have e1 : canE L kind id = (lk L (plB kind id)).isSome := by unfold canE; rw [decide_eq_true hm]; rfl
    rw [e1, e2]
    have hp := plB_lt hm
    obtain ⟨p, hpe⟩ : ∃ p, plB kind id = p := ⟨_, rfl⟩
    rw [hpe] at hp ⊢
    have HP := Lib.hid (And.intro hp hpe)
    have HD := Lib.hid (decide_eq_true hm)
    have HM := Lib.hid hm
    clear e1 e2 hm hp hpe
    cases hk : lk L p with
    | none =>
      have HK := Lib.hid hk
      clear hk
      go_enter Try.func11, Try.ntmps11
      go_wp2_with fail
      go_region_held3 (fun w' => w'.cell? ⟨gb, 0, none⟩ = some (.pointer (some ⟨g, 0, none⟩))) (first | go_keep | (exact E2.out) | (exact E1.out))
        (first | (go_at_call 24; refine (bnone_any HJ.out.drew).mono ?_; rintro r x1 ⟨rfl, rfl⟩)
               | (go_at_call 25; refine (may_any kind id _).mono ?_; rintro r x2 ⟨rfl, hb⟩; rw [HD.out]
                  have HX2 : Hid (Below w.heap.size w x2) := (Below.refl w.heap.size w).drew.trans hb
                  have HB2 := Lib.hid (HB.out.below HX2.out HB.out.lt)
                  have E1 : Hid (x2.cell? ⟨gb, 0, none⟩ = some (.pointer (some ⟨g, 0, none⟩))) := HB2.out.cell 0
                  clear hb)
               | (go_at_call 28; refine (place_any kind id _ HM.out.1 HM.out.2).mono ?_; rintro r x3 ⟨rfl, rfl⟩; rw [show (kind * 16 + id).toNat = p from HP.out.2])
               | (go_at_call 27; refine (remove_no (HR.out.below HX2.out) p HP.out.1 HL.out HK.out).mono ?_; rintro r x4 ⟨rfl, hb⟩
                  have HX4 : Hid (Below w.heap.size w x4) := HX2.out.trans (hb.mono HX2.out.size)
                  have HB4 := Lib.hid (HB.out.below HX4.out HB.out.lt)
                  have E2 : Hid (x4.cell? ⟨gb, 0, none⟩ = some (.pointer (some ⟨g, 0, none⟩))) := HB4.out.cell 0
                  clear hb))
      go_wp2_with fail
      go_ret
      rw [rm_none HK.out]
      exact ⟨rfl, HJ.out.keep HX4.out, (Upd.of_below HX4.out).mono_ge (Nat.le_refl _)⟩
    | some k =>
      have HK := Lib.hid hk
      have hln := rm_len HJ.out.ok hk
      rw [← hln] at HR HL
      have HLN : Hid ((rmL p L).length < 64) := (by have := HL.out; omega : (rmL p L).length < 64)
      clear hk hln
      go_enter Try.func11, Try.ntmps11
      go_wp2_with fail
      go_region_held3 (fun w' => w'.cell? ⟨gb, 0, none⟩ = some (.pointer (some ⟨g, 0, none⟩))) (first | go_keep | (exact E2.out) | (exact E1.out))
        (first | (go_at_call 24; refine (bnone_any HJ.out.drew).mono ?_; rintro r x1 ⟨rfl, rfl⟩)
               | (go_at_call 25; refine (may_any kind id _).mono ?_; rintro r x2 ⟨rfl, hb⟩; rw [HD.out]
                  have HX2 : Hid (Below w.heap.size w x2) := (Below.refl w.heap.size w).drew.trans hb
                  have HB2 := Lib.hid (HB.out.below HX2.out HB.out.lt)
                  have E1 : Hid (x2.cell? ⟨gb, 0, none⟩ = some (.pointer (some ⟨g, 0, none⟩))) := HB2.out.cell 0
                  clear hb)
               | (go_at_call 28; refine (place_any kind id _ HM.out.1 HM.out.2).mono ?_; rintro r x3 ⟨rfl, rfl⟩; rw [show (kind * 16 + id).toNat = p from HP.out.2])
               | (go_at_call 27; refine (remove_yes (HR.out.below HX2.out) p HP.out.1 HLN.out HK.out).mono ?_; rintro r x4 ⟨rfl, hs, hu⟩
                  have HB4 := Lib.hid (HB2.out.upd hu HF.out.2.1)
                  have E2 : Hid (x4.cell? ⟨gb, 0, none⟩ = some (.pointer (some ⟨g, 0, none⟩))) := HB4.out.cell 0
                  rw [← rm_lk] at hs
                  have HX4 := Lib.hid (And.intro hs (((Upd.of_below HX2.out).mono_ge (Nat.le_refl _)).trans hu))
                  clear hs hu))
      go_wp2_with fail
      go_ret
      obtain ⟨⟨s5, h5⟩, hu5⟩ := HX4.out
      exact ⟨rfl, ⟨⟨Fi, g, h, s5, HB4.out, h5, HF.out⟩, rm_ok HJ.out.ok p, fun k hk => Nat.lt_of_lt_of_le (HJ.out.lt k hk) hu5.size, HJ.out.fb⟩, hu5.mono HF.out.1⟩

def nxK : BL → Int | [] => 0 | p :: _ => p.2
def nxB : BL → Bool | [] => false | _ :: _ => true
theorem bfirst_any {w : World} {Fi : Nat → Prop} {g h : Nat} {s : HS} {L : BL} (hR : RkJ w Fi g h L.length (lk L) s) (ok : OkL L) :
    Calls Try.prog 32 #[.pointer (some ⟨g, 0, none⟩)] w fun r w' => (∃ z, r = .returned (.tuple #[.int .i64 z, .int .i64 (nxK L), .bool (nxB L)])) ∧ Below w.heap.size w w' := by
  refine (first_any hR.hp).mono ?_
  rintro r w' ⟨rfl, hb⟩
  cases L with
  | nil => exact ⟨⟨0, rfl⟩, hb⟩
  | cons p t =>
    obtain ⟨_, h2, h3⟩ := root_is hR.rep hR.heap ok
    rw [if_neg (by simp), if_neg (by simp), h3]
    exact ⟨⟨_, rfl⟩, hb⟩
set_option maxHeartbeats 2000000 in
theorem next_any {w : World} {F : Nat → Prop} {gb : Nat} {L : BL} (hj : BlJ w F gb L) :
    Calls Try.prog 15 #[.pointer (some ⟨gb, 0, none⟩)] w fun r w' => r = .returned (.tuple #[.int .i64 (nxK L), .bool (nxB L)]) ∧ Below w.heap.size w w' := by
  obtain ⟨Fi, g, h, s, h1, h2, _⟩ := hj.ex
  have hge : w.cell? ⟨gb, 0, none⟩ = some (.pointer (some ⟨g, 0, none⟩)) := h1.cell 0
  have HJ := Lib.hid hj
  have HR := Lib.hid h2
  clear hj h1 h2
  go_enter Try.func15, Try.ntmps15
  go_wp2_with (first
    | (go_at_call 24; refine (bnone_any HJ.out).mono ?_; rintro r x1 ⟨rfl, rfl⟩)
    | (go_at_call 32; refine (bfirst_any HR.out HJ.out.ok).mono ?_; rintro r x2 ⟨⟨z, rfl⟩, hb⟩; have HX := Lib.hid hb; clear hb))
  go_ret2
  exact ⟨rfl, HX.out⟩
theorem count_any {w : World} {F : Nat → Prop} {gb : Nat} {L : BL} (hj : BlJ w F gb L) :
    Calls Try.prog 14 #[.pointer (some ⟨gb, 0, none⟩)] w fun r w' => r = .returned (.int .i64 (L.length : Nat)) ∧ w = w' := by
  obtain ⟨Fi, g, h, s, h1, h2, _⟩ := hj.ex
  have hge : w.cell? ⟨gb, 0, none⟩ = some (.pointer (some ⟨g, 0, none⟩)) := h1.cell 0
  have HJ := Lib.hid hj
  have HR := Lib.hid h2
  clear hj h1 h2
  go_enter Try.func14, Try.ntmps14
  go_wp2_with (first
    | (go_at_call 24; refine (bnone_any HJ.out).mono ?_; rintro r x1 ⟨rfl, rfl⟩)
    | (go_at_call 31; refine (len_any HR.out).mono ?_; rintro r x2 ⟨rfl, rfl⟩))
  go_ret
  exact ⟨rfl, rfl⟩

def bellC : BL → List Value
  | [] => []
  | p :: t => .int .i64 p.2 :: .int .i64 (p.1 / 16 : Nat) :: .int .i64 (p.1 % 16 : Nat) :: bellC t
theorem bellC_app (a b : BL) : bellC (a ++ b) = bellC a ++ bellC b := by
  induction a with
  | nil => rfl
  | cons p t ih => simp [bellC, ih]
theorem bellC_len (a : BL) : (bellC a).length = a.length * 3 := by
  induction a with
  | nil => rfl
  | cons p t ih => rw [bellC]; simp [ih]; omega
def dueL (now : Int) (L : BL) : BL := L.takeWhile (fun p => decide (p.2 ≤ now))
def restL (now : Int) (L : BL) : BL := L.dropWhile (fun p => decide (p.2 ≤ now))
theorem own_farB {w wr w' : World} {e : TypeId} {v : Value} {n sz : Nat} {xs : List Value} {R : Nat → Prop} (h : wr.ownsRow w.heap.size e sz v n xs) (hu : Upd R wr w') (hR : ∀ k, R k → k < w.heap.size) : w'.ownsRow w.heap.size e sz v n xs := by
  refine ⟨h.1, ?_⟩
  rcases h.2 with h0 | ⟨g, cap, cur, h1, h2, h3, h4⟩
  · exact Or.inl h0
  · exact Or.inr ⟨g, cap, cur, h1, h2, Blk.upd h3 hu (fun e => by have := hR g e; omega), h4⟩
theorem own_belowB {w wr w' : World} {e : TypeId} {v : Value} {n sz : Nat} {xs : List Value} (h : wr.ownsRow w.heap.size e sz v n xs) (hb : Below wr.heap.size wr w') : w'.ownsRow w.heap.size e sz v n xs := by
  refine ⟨h.1, ?_⟩
  rcases h.2 with h0 | ⟨g, cap, cur, h1, h2, h3, h4⟩
  · exact Or.inl h0
  · exact Or.inr ⟨g, cap, cur, h1, h2, Blk.below h3 hb (Blk.lt h3), h4⟩
theorem infoBell : (Try.prog.info? 36).map (fun i => (i.zero, i.size, i.bytes)) = some (some (.agg #[.int .i64 0, .int .i64 0, .int .i64 0]), 3, 24) := by kernel_rfl
theorem bellCells : (Value.agg #[.int .i64 0, .int .i64 0, .int .i64 0]).cells.size = 3 := by kernel_rfl
theorem OkN.drop {N : Nat} {L R D : BL} (h : OkN N L) (e : D ++ R = L) : OkN N R := by
  subst e
  exact ⟨fun p hp => h.lt p (List.mem_append_right _ hp), (List.pairwise_append.1 h.so).2.1, (List.pairwise_append.1 h.ne).2.1⟩
/-- While what is due is told. -/
structure DuJ (w wr : World) (F : Nat → Prop) (gb : Nat) (R D L : BL) (now : Int) (v : Value) : Prop where
  j : BlJ wr F gb R
  own : wr.ownsRow w.heap.size 36 3 v D.length (bellC D)
  u : Upd F w wr
  e : D ++ R = L
  d : ∀ p, p ∈ D → p.2 ≤ now
theorem pop_bl {w : World} {Fi : Nat → Prop} {g h : Nat} {s : HS} {p : Nat × Int} {t : BL} (hR : RkJ w Fi g h (p :: t).length (lk (p :: t)) s) (ok : OkL (p :: t)) :
    Calls Try.prog 30 #[.pointer (some ⟨g, 0, none⟩)] w fun r w' => r = .returned (.tuple #[.int .i64 p.1, .int .i64 p.2, .bool true]) ∧ (∃ s', RkJ w' Fi g h t.length (lk t) s') ∧ Upd Fi w w' := by
  obtain ⟨_, h2, h3⟩ := root_is hR.rep hR.heap ok
  have hlen := ok_len ok
  rw [List.length_cons] at hlen
  refine (pop_yes (n := t.length) hR p.1 p.2 h2 h3 (by omega)).mono ?_
  rintro r w' ⟨rfl, hs, hu⟩
  rw [pop_lk ok] at hs
  exact ⟨rfl, hs, hu⟩
theorem due_split {now : Int} {D R L : BL} (e : D ++ R = L) (hd : ∀ p, p ∈ D → p.2 ≤ now) (hr : ∀ p t, R = p :: t → ¬ p.2 ≤ now) : D = dueL now L ∧ R = restL now L := by
  subst e
  unfold dueL restL
  induction D with
  | nil =>
    cases R with
    | nil => exact ⟨rfl, rfl⟩
    | cons p t =>
      have := hr p t rfl
      simp [List.takeWhile, List.dropWhile, this]
  | cons p t ih =>
    have hp := hd p List.mem_cons_self
    obtain ⟨h1, h2⟩ := ih fun q hq => hd q (List.mem_cons_of_mem _ hq)
    simp only [List.cons_append, List.takeWhile_cons, List.dropWhile_cons, decide_eq_true hp, if_true]
    exact ⟨by rw [← h1], h2⟩

def lenOf : Value → Nat | .slice _ n _ => n | _ => 0
theorem own_lenOf {w : World} {B : Nat} {e : TypeId} {v : Value} {n sz : Nat} {xs : List Value} (h : w.ownsRow B e sz v n xs) : lenOf v = n := by
  rcases h.2 with ⟨h1, h2⟩ | ⟨g, cap, cur, h1, _⟩
  · rw [h1, h2]; rfl
  · rw [h1]; rfl

set_option maxRecDepth 100000 in
set_option maxHeartbeats 8000000 in
theorem due_any {w : World} {F : Nat → Prop} {gb : Nat} {L : BL} (hj : BlJ w F gb L) (now : Int) :
    Calls Try.prog 12 #[.pointer (some ⟨gb, 0, none⟩), .int .i64 now] w fun r w' => (∃ v, r = .returned v ∧ w'.ownsRow w.heap.size 36 3 v (dueL now L).length (bellC (dueL now L))) ∧ BlJ w' F gb (restL now L) ∧ Upd F w w' := by
  have HJ := Lib.hid hj
  have HLT := Lib.hid hj.lt
  clear hj
  obtain ⟨i0, hi0, hz0, hz1, hz2⟩ := info_parts infoBell
  go_enter Try.func12, Try.ntmps12
  go_wp2_with (go_at_call 15; refine (next_any HJ.out).mono ?_; rintro r x1 ⟨rfl, hb⟩; have HX := Lib.hid hb; clear hb)
  have hlen := ok_len HJ.out.ok
  have HLEN := Lib.hid hlen
  clear hlen
  have HI := Lib.hid (And.intro hi0 (And.intro hz0 (And.intro hz1 hz2)))
  clear hi0 hz0 hz1 hz2
  go_loopw [4, 5, 6] (fun v va vb wr => ∃ (D R : BL), va = .int .i64 (nxK R) ∧ vb = .bool (nxB R) ∧ Hid (DuJ w wr F gb R D L now v)) (fun v _ _ _ => 65 - lenOf v)
  case atStart => exact ⟨[], L, rfl, rfl, ⟨HJ.out.keep HX.out, World.ownsRow_nil _ _ _ _, (Upd.of_below HX.out).mono_ge (Nat.le_refl _), rfl, fun p hp => (by cases hp)⟩⟩
  case round =>
    obtain ⟨D, R, rfl, rfl, HD⟩ := hrel
    cases R with
    | nil =>
      have e1 : nxK [] = 0 := rfl
      have e2 : nxB [] = false := rfl
      rw [e1, e2]
      go_wp2_with fail
      go_ret
      obtain ⟨q1, q2⟩ := due_split HD.out.e HD.out.d (fun p t h => by cases h)
      rw [← q1, ← q2]
      exact ⟨⟨_, rfl, HD.out.own⟩, HD.out.j, HD.out.u⟩
    | cons p t =>
      have e1 : nxK (p :: t) = p.2 := rfl
      have e2 : nxB (p :: t) = true := rfl
      rw [e1, e2]
      obtain ⟨pk, hpk⟩ : ∃ z, p.2 = z := ⟨_, rfl⟩
      rw [hpk]
      by_cases hn : pk ≤ now
      · have hn1 : decide (pk ≤ now) = true := decide_eq_true hn
        obtain ⟨Fi, g, h, s, h1, h2, h3, h4, h5⟩ := HD.out.j.ex
        have hge : wr.cell? ⟨gb, 0, none⟩ = some (.pointer (some ⟨g, 0, none⟩)) := h1.cell 0
        have hpl := HD.out.j.ok.lt p List.mem_cons_self
        have hDl : D.length + (t.length + 1) = L.length := by rw [← HD.out.e, List.length_append, List.length_cons]
        obtain ⟨zi, hzi⟩ : ∃ z : Int, (p.1 : Int) = z := ⟨_, rfl⟩
        obtain ⟨a, ha⟩ : ∃ a : Nat, p.1 / 16 = a := ⟨_, rfl⟩
        obtain ⟨b, hb⟩ : ∃ b : Nat, p.1 % 16 = b := ⟨_, rfl⟩
        have wa : IntKind.i64.wrap (zi.tdiv 16) = (a : Int) := by
          have : zi.tdiv 16 = (a : Int) := by rw [Int.tdiv_eq_ediv_of_nonneg (by omega)]; omega
          rw [this]; exact IntWalk.i64_in _ (by omega)
        have wb : zi.tmod 16 = (b : Int) := by rw [Int.tmod_eq_emod_of_nonneg (by omega)]; omega
        have hpop := pop_bl h2 HD.out.j.ok
        rw [hzi, hpk] at hpop
        have HPOP := Lib.hid hpop
        have HZ := Lib.hid (And.intro hzi (And.intro ha (And.intro hb (And.intro hpk hn))))
        have HB := Lib.hid h1
        have HF := Lib.hid (And.intro h3 (And.intro h4 h5))
        have H63 : Hid (D.length + 1 ≤ maxLen ∧ (D.length + 1) * 24 ≤ 140737488355328) := by
          have := HLEN.out
          exact ⟨by unfold maxLen; omega, by omega⟩
        have HDL := Lib.hid hDl
        have hsz := HD.out.u.size
        have HSZ := Lib.hid hsz
        clear h1 h2 h3 h4 h5 hpl hDl hzi ha hb hpop hpk hn hsz
        go_wp2_with (first
          | (go_at_call 30; refine HPOP.out.mono ?_; rintro r x2 ⟨rfl, ⟨s5, hs⟩, hu⟩
             have hj2 : BlJ x2 F gb t := ⟨⟨Fi, g, h, s5, HB.out.upd hu HF.out.2.1, hs, HF.out⟩, HD.out.j.ok.tail, fun k hk => Nat.lt_of_lt_of_le (HD.out.j.lt k hk) hu.size, HD.out.j.fb⟩
             have HJ2 := Lib.hid hj2
             have HO2 := Lib.hid (own_farB HD.out.own hu (fun k hk => HLT.out k (HF.out.1 k hk)))
             have HU2 := Lib.hid (HD.out.u.trans (hu.mono HF.out.1))
             have HOA := Lib.hid (own_belowB HO2.out ((Below.refl x2.heap.size x2).alloc (Nat.le_refl _) (.cells #[.int .i64 pk, .int .i64 a, .int .i64 b] 36)))
             clear hs hu hj2 hge)
          | (at_builtin
             refine wpList_append_lies _ (by rfl) _ _ 33 (by rfl) w.heap.size 36 i0 _ 3 24 Try.underlying33 HI.out.1 HI.out.2.1 HI.out.2.2.1 HI.out.2.2.2 bellCells (by decide) u4 D.length (bellC D) (by rfl) HOA.out ⟨x2.heap.size, 0, none⟩ 1 1 [.int .i64 pk, .int .i64 a, .int .i64 b] (by rfl) (by rfl) (World.news_of_block (cs := #[.int .i64 pk, .int .i64 a, .int .i64 b]) (t := 36) (fr := (0, 0)) (heap_alloc_new x2 _)) (by simp [Value.oneCell']) (by decide) H63.out.1 H63.out.2 (by have := HU2.out.size; simp; omega) (x2.heap.size + 1) (by simp) ?_
             intro g3 cap3 x3 hown1 hgrow hat hlt1
             have hu3 : Upd (fun q => some q = u4.ownBlock) x2 x3 := ((Upd.refl _ x2).alloc (.cells #[.int .i64 pk, .int .i64 a, .int .i64 b] 36)).trans ⟨hgrow.os, hgrow.tape, hgrow.output, hgrow.size, fun k hk hn => hgrow.block k hk (fun e => hn e)⟩
             have hob : ∀ q, some q = u4.ownBlock → w.heap.size ≤ q := fun q hq => by
               rcases HO2.out.2 with ⟨h1, _⟩ | ⟨gl, cap, cur, h1, h0, _⟩
               · rw [h1] at hq; simp [Value.ownBlock] at hq
               · rw [h1] at hq
                 have : some q = some gl := hq
                 cases this
                 exact h0
             have HJ3 := Lib.hid (HJ2.out.upd hu3 (fun k hk hf => by have := hob k hk; have := HLT.out k hf; omega))
             have HU3 : Hid (Upd F w x3) := HU2.out.transM hu3 (fun k hk hq => absurd (hob k hq) (by omega))
             have HO3 := Lib.hid hown1
             clear hown1 hgrow hat hlt1 hu3 hob)
          | (go_at_call 15; refine (next_any HJ3.out).mono ?_; rintro r x4 ⟨rfl, hb⟩; have HX4 := Lib.hid hb; clear hb))
        refine ⟨⟨D ++ [p], t, rfl, rfl, ⟨HJ3.out.keep HX4.out, ?_, HU3.out.trans ((Upd.of_below HX4.out).mono_ge (Nat.le_refl _)), by rw [List.append_assoc]; exact HD.out.e, fun q hq => ?_⟩⟩, ?_⟩
        · have := own_belowB HO3.out HX4.out
          rw [bellC_app, List.length_append]
          simp only [bellC, List.length_cons, List.length_nil, Nat.zero_add]
          rw [HZ.out.2.1, HZ.out.2.2.1, HZ.out.2.2.2.1]
          exact this
        · rcases List.mem_append.1 hq with h6 | h6
          · exact HD.out.d q h6
          · rcases List.mem_cons.1 h6 with rfl | h6
            · rw [HZ.out.2.2.2.1]; exact HZ.out.2.2.2.2
            · cases h6
        · have h7 := own_lenOf HD.out.own
          have h8 := HDL.out
          have h9 := HLEN.out
          show 65 - (D.length + 1) < 65 - lenOf u4
          omega
      · have hn1 : decide (pk ≤ now) = false := decide_eq_false hn
        have HN := Lib.hid (And.intro hpk hn)
        clear hpk hn
        go_wp2_with fail
        go_ret
        obtain ⟨q1, q2⟩ := due_split HD.out.e HD.out.d (fun q t' h => by injection h with h _; rw [← h, HN.out.1]; have := HN.out.2; omega)
        rw [← q1, ← q2]
        exact ⟨⟨_, rfl, HD.out.own⟩, HD.out.j, HD.out.u⟩
end Go.Proofs.Ytbfbahedbfjcoaa
