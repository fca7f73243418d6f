/- The document's bells: Cancel. -/
import Derived.Test.YtbfbahedbfjcoaaBelRef
namespace Go.Proofs.Ytbfbahedbfjcoaa
set_option linter.all false
open Go.RowKit
attribute [local go_sem ↓] Go.wp_at_zero Go.wp_at_succ

/-- While a row is gone through: what the call has built, and that nothing that was there has turned. -/
structure OutJ (w wr : World) (v : Value) (D : BL) : Prop where
  own : wr.ownsRow w.heap.size 36 3 v D.length (bellC D)
  b : Below w.heap.size w wr
theorem bellCp (p : Nat × Int) : bellC [p] = [.int .i64 p.2, .int .i64 (p.1 / 16 : Nat), .int .i64 (p.1 % 16 : Nat)] := rfl
theorem OutJ.keep {w wr w' : World} {v : Value} {D : BL} (h : OutJ w wr v D) (hb : Below wr.heap.size wr w') : OutJ w w' v D := ⟨own_belowB h.own hb, h.b.trans (hb.mono h.b.size)⟩
theorem OutJ.snoc {w wr x3 : World} {v v' : Value} {D : BL} {p : Nat × Int} {k a b : Int} (hd : OutJ w wr v D) (hk : p.2 = k) (ha : ((p.1 / 16 : Nat) : Int) = a) (hb : ((p.1 % 16 : Nat) : Int) = b)
    (hown : x3.ownsRow w.heap.size 36 3 v' (D.length + 1) (bellC D ++ [.int .i64 k, .int .i64 a, .int .i64 b])) (hu : Upd (fun q => some q = v.ownBlock) wr x3) : OutJ w x3 v' (D ++ [p]) := by
  refine ⟨?_, ?_⟩
  · rw [bellC_app, List.length_append, bellCp, hk, ha, hb]
    exact hown
  · refine hd.b.trans (hu.below hd.b.size fun q hq => ?_)
    rcases hd.own.2 with ⟨h1, _⟩ | ⟨gl, cap, cur, h1, h0, _⟩
    · rw [h1] at hq; simp [Value.ownBlock] at hq
    · rw [h1] at hq
      have : some q = some gl := hq
      cases this
      exact h0

set_option maxRecDepth 100000 in
set_option maxHeartbeats 4000000 in
theorem rbcancel {w : World} {F : Nat → Prop} {gm : Nat} {L : BL} (h : RbJ w F gm L) (kind id : Int) : Calls Try.prog 34 #[.pointer (some ⟨gm, 0, none⟩), .int .i64 kind, .int .i64 id] w fun r w' => r = .returned (.bool (canE L kind id)) ∧ RbJ w' (growR F w w') gm (canL L kind id) ∧ Upd F w w' := by
  obtain ⟨v, h1, h2⟩ := h.ex
  obtain ⟨A, c, rfl⟩ := h2.sl
  have HL := Lib.hid (ok_len h.ok)
  have hw := was_is h.ok kind id
  have HRK := Lib.hid (And.intro (rmK_is h.ok kind id) (And.intro hw (can_ok h.ok kind id)))
  obtain ⟨n, hn⟩ : ∃ n, L.length = n := ⟨_, rfl⟩
  rw [hn] at h1 h2
  have hgm := h1.lt
  have HB := Lib.hid h1
  have HH := Lib.hid h
  have H2 := Lib.hid (And.intro h2 hn)
  obtain ⟨qb, hqb⟩ : ∃ q, canE L kind id = q := ⟨_, rfl⟩
  have HQ := Lib.hid hqb
  rw [hqb]
  have c0 : w.cell? ⟨gm, 0, none⟩ = some (.slice A n c) := h1.cell 0
  obtain ⟨i0, hi0, hz0, hz1, hz2⟩ := info_parts infoBell
  have HI := Lib.hid (And.intro hi0 (And.intro hz0 (And.intro hz1 hz2)))
  clear h1 h2 h hn hgm hw hqb hi0 hz0 hz1 hz2
  go_enter Try.func34, Try.ntmps34
  go_wp2_with fail
  go_loopw [7, 8] (fun v vi wr => ∃ i : Nat, i ≤ n ∧ vi = .int .i64 (i : Int) ∧ Hid (OutJ w wr v (rmK kind id (L.take i)))) (fun _ vi _ => n - (intOf vi).toNat)
  case atStart => exact ⟨0, by omega, rfl, ⟨World.ownsRow_nil _ _ _ _, Below.refl _ _⟩⟩
  case round =>
    obtain ⟨i, hi, rfl, HO⟩ := hrel
    have hx0 : (0 : Int) ≤ i := by omega
    have w1 : IntKind.i64.wrap ((i : Int) + 1) = (i : Int) + 1 := IntWalk.i64_in _ (by have := HL.out; have := H2.out.2; omega)
    have c1 : wr.cell? ⟨gm, 0, none⟩ = some (.slice A n c) := (HO.out.b.cell (p := ⟨gm, 0, none⟩) HB.out.lt).trans c0
    have HBr := Lib.hid (HB.out.below HO.out.b HB.out.lt)
    obtain ⟨m, hm⟩ : ∃ m, (rmK kind id (L.take i)).length = m := ⟨_, rfl⟩
    have hmi : m ≤ i := by
      rw [← hm]
      refine Nat.le_trans (List.length_filter_le _ _) ?_
      rw [List.length_take]
      omega
    have HMI := Lib.hid (And.intro hm hmi)
    clear hm hmi c0
    by_cases hin : i < n
    · have hx1 : (i : Int) < n := by omega
      obtain ⟨g, off, cap, p, hv, hFg, hp, y0, y1, y2, _⟩ := H2.out.1.at_ i (by have := H2.out.2; omega)
      injection hv with hA _ hc
      subst hA hc
      have hglt := HH.out.lt g hFg
      rw [← HO.out.b.cell (p := ⟨g, off + i * 3, none⟩) hglt] at y0
      rw [← HO.out.b.cell (p := ⟨g, off + i * 3 + 1, none⟩) hglt] at y1
      rw [← HO.out.b.cell (p := ⟨g, off + i * 3 + 2, none⟩) hglt] at y2
      obtain ⟨a, ha⟩ : ∃ a : Int, ((p.1 / 16 : Nat) : Int) = a := ⟨_, rfl⟩
      obtain ⟨b, hb⟩ : ∃ a : Int, ((p.1 % 16 : Nat) : Int) = a := ⟨_, rfl⟩
      obtain ⟨k, hk⟩ : ∃ k, p.2 = k := ⟨_, rfl⟩
      rw [hk] at y0
      rw [ha] at y1
      rw [hb] at y2
      have htk : rmK kind id (L.take (i + 1)) = if isB kind id p then rmK kind id (L.take i) else rmK kind id (L.take i) ++ [p] := by
        unfold rmK
        rw [List.take_add_one, hp, List.filter_append]
        by_cases h : isB kind id p
        · rw [if_pos h]; simp [h]
        · rw [if_neg h]; simp [h]
      have HTK := Lib.hid htk
      have HAB := Lib.hid (And.intro hk (And.intro ha hb))
      have H63 : Hid (m + 1 ≤ maxLen ∧ (m + 1) * 24 ≤ 140737488355328) := by
        have := HL.out
        have := H2.out.2
        have := HMI.out.2
        exact ⟨by unfold maxLen; omega, by omega⟩
      have HOW := Lib.hid HO.out.own
      rw [HMI.out.1] at HOW
      have HOA := Lib.hid (own_belowB HOW.out ((Below.refl wr.heap.size wr).alloc (Nat.le_refl _) (.cells #[.int .i64 k, .int .i64 a, .int .i64 b] 36)))
      clear hp htk ha hb hk hglt hFg
      by_cases h1 : a = kind
      · have hb1 : (a != kind) = false := by simp [h1]
        by_cases h2 : b = id
        · have hb2 : (b != id) = false := by simp [h2]
          have hz := HTK.out
          rw [if_pos (show isB kind id p from ⟨HAB.out.2.1.trans h1, HAB.out.2.2.trans h2⟩)] at hz
          have HZ := Lib.hid hz
          clear h1 h2 hz
          go_wp2_with fail
          exact ⟨⟨i + 1, by omega, by go_num, by rw [HZ.out]; exact HO.out⟩, by simp [intOf]; try omega⟩
        · have hb2 : (b != id) = true := by simp [h2]
          have hz := HTK.out
          rw [if_neg (show ¬ isB kind id p from fun e => h2 (HAB.out.2.2.symm.trans e.2))] at hz
          have HZ := Lib.hid hz
          clear h1 h2 hz
          go_wp2_with (first
            | (at_builtin
               refine wpList_append_lies _ (by rfl) _ _ 33 (by rfl) w.heap.size 36 i0 _ 3 24 Try.underlying33 HI.out.1 HI.out.2.1 HI.out.2.2.1 HI.out.2.2.2 bellCells (by decide) u7 m (bellC (rmK kind id (L.take i))) (by rfl) HOA.out ⟨wr.heap.size, 0, none⟩ 1 1 [.int .i64 k, .int .i64 a, .int .i64 b] (by rfl) (by rfl) (World.news_of_block (cs := #[.int .i64 k, .int .i64 a, .int .i64 b]) (t := 36) (fr := (0, 0)) (heap_alloc_new wr _)) (by simp [Value.oneCell']) (by decide) H63.out.1 H63.out.2 (by have := HO.out.b.size; simp; omega) (wr.heap.size + 1) (by simp) ?_
               intro g3 cap3 x3 hown1 hgrow hat hlt1
               have hu3 : Upd (fun q => some q = u7.ownBlock) wr x3 := ((Upd.refl _ wr).alloc (.cells #[.int .i64 k, .int .i64 a, .int .i64 b] 36)).trans ⟨hgrow.os, hgrow.tape, hgrow.output, hgrow.size, fun k hk hn => hgrow.block k hk (fun e => hn e)⟩
               rw [← HMI.out.1] at hown1
               have HO3 := Lib.hid (HO.out.snoc HAB.out.1 HAB.out.2.1 HAB.out.2.2 hown1 hu3)
               clear hown1 hgrow hat hlt1 hu3))
          have HO4 := HO3
          rw [HMI.out.1] at HO4
          exact ⟨⟨i + 1, by omega, by go_num, by rw [HZ.out]; exact HO4.out⟩, by simp [intOf]; try omega⟩
      · have hb1 : (a != kind) = true := by simp [h1]
        have hz := HTK.out
        rw [if_neg (show ¬ isB kind id p from fun e => h1 (HAB.out.2.1.symm.trans e.1))] at hz
        have HZ := Lib.hid hz
        clear h1 hz
        go_wp2_with (first
            | (at_builtin
               refine wpList_append_lies _ (by rfl) _ _ 33 (by rfl) w.heap.size 36 i0 _ 3 24 Try.underlying33 HI.out.1 HI.out.2.1 HI.out.2.2.1 HI.out.2.2.2 bellCells (by decide) u7 m (bellC (rmK kind id (L.take i))) (by rfl) HOA.out ⟨wr.heap.size, 0, none⟩ 1 1 [.int .i64 k, .int .i64 a, .int .i64 b] (by rfl) (by rfl) (World.news_of_block (cs := #[.int .i64 k, .int .i64 a, .int .i64 b]) (t := 36) (fr := (0, 0)) (heap_alloc_new wr _)) (by simp [Value.oneCell']) (by decide) H63.out.1 H63.out.2 (by have := HO.out.b.size; simp; omega) (wr.heap.size + 1) (by simp) ?_
               intro g3 cap3 x3 hown1 hgrow hat hlt1
               have hu3 : Upd (fun q => some q = u7.ownBlock) wr x3 := ((Upd.refl _ wr).alloc (.cells #[.int .i64 k, .int .i64 a, .int .i64 b] 36)).trans ⟨hgrow.os, hgrow.tape, hgrow.output, hgrow.size, fun k hk hn => hgrow.block k hk (fun e => hn e)⟩
               rw [← HMI.out.1] at hown1
               have HO3 := Lib.hid (HO.out.snoc HAB.out.1 HAB.out.2.1 HAB.out.2.2 hown1 hu3)
               clear hown1 hgrow hat hlt1 hu3))
        have HO4 := HO3
        rw [HMI.out.1] at HO4
        exact ⟨⟨i + 1, by omega, by go_num, by rw [HZ.out]; exact HO4.out⟩, by simp [intOf]; try omega⟩
    · obtain rfl : i = n := by omega
      have hz : rmK kind id (L.take i) = canL L kind id := by rw [List.take_of_length_le (by have := H2.out.2; omega)]; exact HRK.out.1
      have HMM := HMI.out.1
      have hO := HO.out
      rw [hz] at hO HMM
      obtain ⟨A', c', rfl⟩ : ∃ A' c', u7 = .slice A' m c' := by
        rcases hO.own.2 with ⟨h1, h2⟩ | ⟨g, cap, cur, h1, _⟩
        · rw [HMM] at h2; rw [h1, h2]; exact ⟨_, _, rfl⟩
        · rw [HMM] at h1; exact ⟨_, _, h1⟩
      have hwas : decide ((m : Int) < (i : Int)) = qb := by
        have := HRK.out.2.1
        rw [HMM, H2.out.2, HQ.out] at this
        exact this
      have HWAS : Hid (decide (m < i) = qb) := by
        have e : decide (m < i) = decide ((m : Int) < (i : Int)) := by rw [decide_eq_decide]; omega
        rw [e]; exact hwas
      clear hwas
      have f1 : wr.frozen? ⟨gm, 0, none⟩ = false := HBr.out.frozen 0
      have HO5 := Lib.hid hO
      clear hO HMM hz
      go_wp2_with fail
      go_ret
      have hbr := brow_own HO5.out.own
      have hsz := HO5.out.b.size
      refine ⟨ret_bool HWAS.out, ⟨Or.inl HH.out.fm, ⟨_, by simpa using HBr.out.set_ 0 (.slice A' m c'), (hbr.far HBr.out 0 _).mono fun k hk => Or.inr ⟨hk.1, by simpa [World.setCell] using hk.2⟩⟩, fun k hk => ?_, HRK.out.2.2⟩, ?_⟩
      · rcases hk with hk | hk
        · have := HH.out.lt k hk
          simp [World.setCell]; omega
        · exact hk.2
      · exact ((Upd.of_below HO5.out.b).mono_ge (Nat.le_refl _)).setCell (p := ⟨gm, 0, none⟩) (fun _ => HH.out.fm) _
end Go.Proofs.Ytbfbahedbfjcoaa
