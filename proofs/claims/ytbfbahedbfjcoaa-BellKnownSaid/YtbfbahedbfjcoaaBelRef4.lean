/- The document's bells: Due. -/
import Derived.Test.YtbfbahedbfjcoaaBelRef3
namespace Go.Proofs.Ytbfbahedbfjcoaa
set_option linter.all false
open Go.RowKit
attribute [local go_sem ↓] Go.wp_at_zero Go.wp_at_succ

theorem bellC_drop (L : BL) (i : Nat) : bellC (L.drop i) = (bellC L).drop (i * 3) := by
  induction L generalizing i with
  | nil => simp [bellC]
  | cons p t ih =>
    cases i with
    | zero => simp
    | succ i => rw [List.drop_succ_cons, ih i, show (i + 1) * 3 = i * 3 + 3 from by omega]; rfl
theorem due_end {w wr : World} {F : Nat → Prop} {gm : Nat} {L : BL} {now : Int} {i g off n c off' n' c' : Nat} (h : RbJ w F gm L) (hb : Below w.heap.size w wr) (hw : Blk w gm 58 #[.slice (some ⟨g, off, none⟩) n c]) (hr : BRow w F (.slice (some ⟨g, off, none⟩) n c) L) (hd : L.drop i = restL now L)
    (hn : n' = L.length - i) (hi : i ≤ L.length) (h1 : (off' = off + i * 3 ∧ c' = c - i) ∨ (off' = off ∧ i = L.length ∧ c' = 0)) : RbJ (wr.setCell ⟨gm, 0, none⟩ (.slice (some ⟨g, off', none⟩) n' c')) F gm (restL now L) ∧ Upd F w (wr.setCell ⟨gm, 0, none⟩ (.slice (some ⟨g, off', none⟩) n' c')) := by
  rcases hr with ⟨hv, _⟩ | ⟨g1, off1, cap, cur, hv, hFg, hblk, hle, hcap, hcells⟩
  · injection hv with e1 e2 e3; cases e1
  · injection hv with e1 e2 e3
    cases e1
    subst e3
    have hbr := hw.below hb hw.lt
    have hne : g ≠ gm := hblk.ne_ hw (by decide)
    have hbg := (hblk.below hb hblk.lt).far (p := ⟨gm, 0, none⟩) hne (.slice (some ⟨g, off', none⟩) n' c')
    have hln : (restL now L).length = n' := by rw [← hd, List.length_drop, hn]
    refine ⟨⟨h.fm, ⟨_, by simpa using hbr.set_ 0 (.slice (some ⟨g, off', none⟩) n' c'), Or.inr ⟨g, off', c', cur, by rw [hln], hFg, hbg, ?_, ?_, ?_⟩⟩, fun k hk => ?_, h.ok.drop (due_rest now L)⟩, ((Upd.of_below hb).mono_ge (Nat.le_refl _)).setCell (p := ⟨gm, 0, none⟩) (fun _ => h.fm) _⟩
    · rw [hln]; rcases h1 with h1 | h1 <;> omega
    · rcases h1 with h1 | h1 <;> omega
    · intro j u hj
      rw [← hd, bellC_drop] at hj
      rcases h1 with h1 | h1
      · rw [List.getElem?_drop] at hj
        have := hcells _ u hj
        rw [h1.1, show off + i * 3 + j = off + (i * 3 + j) from by omega]
        exact this
      · rw [List.drop_eq_nil_of_le (by rw [bellC_len]; omega)] at hj
        cases hj
    · have := h.lt k hk; have := hb.size; simp [World.setCell]; omega
theorem own_setB {w wr : World} {e : TypeId} {v : Value} {n sz : Nat} {xs : List Value} (h : wr.ownsRow w.heap.size e sz v n xs) {gm : Nat} (hg : gm < w.heap.size) (i : Nat) (u : Value) : (wr.setCell ⟨gm, i, none⟩ u).ownsRow w.heap.size e sz v n xs :=
  own_farB h (Upd.set1 gm i u) (fun k hk => by subst hk; exact hg)
set_option maxRecDepth 100000 in
set_option maxHeartbeats 4000000 in
theorem rbdue {w : World} {F : Nat → Prop} {gm : Nat} {L : BL} (h : RbJ w F gm L) (now : Int) : Calls Try.prog 22 #[.pointer (some ⟨gm, 0, none⟩), .int .i64 now] w fun r w' => (∃ v, r = .returned v ∧ w'.ownsRow w.heap.size 36 3 v (dueL now L).length (bellC (dueL now L))) ∧ RbJ w' F gm (restL now L) ∧ Upd F w w' := by
  obtain ⟨v, h1, h2⟩ := h.ex
  obtain ⟨A, c, rfl⟩ := h2.sl
  have HL := Lib.hid (ok_len h.ok)
  obtain ⟨n, hn⟩ : ∃ n, L.length = n := ⟨_, rfl⟩
  rw [hn] at h1 h2
  have HB := Lib.hid h1
  have HH := Lib.hid h
  have H2 := Lib.hid (And.intro h2 hn)
  have c0 : w.cell? ⟨gm, 0, none⟩ = some (.slice A n c) := h1.cell 0
  obtain ⟨i0, hi0, hz0, hz1, hz2⟩ := info_parts infoBell
  have HI := Lib.hid (And.intro hi0 (And.intro hz0 (And.intro hz1 hz2)))
  clear h1 h2 h hn hi0 hz0 hz1 hz2
  go_enter Try.func22, Try.ntmps22
  go_wp2_with fail
  go_loopw [5, 6] (fun vi v wr => ∃ i : Nat, i ≤ n ∧ vi = .int .i64 (i : Int) ∧ Hid (OutJ w wr v (L.take i) ∧ ∀ p, p ∈ L.take i → p.2 ≤ now)) (fun vi _ _ => n - (intOf vi).toNat)
  case atStart => exact ⟨0, by omega, rfl, ⟨World.ownsRow_nil _ _ _ _, Below.refl _ _⟩, fun p hp => (by cases hp)⟩
  case round =>
    obtain ⟨i, hi, rfl, HO⟩ := hrel
    have hx0 : (0 : Int) ≤ i := by omega
    have w1 : IntKind.i64.wrap ((i : Int) + 1) = (i : Int) + 1 := IntWalk.i64_in _ (by have := HL.out; have := H2.out.2; omega)
    have c1 : wr.cell? ⟨gm, 0, none⟩ = some (.slice A n c) := (HO.out.1.b.cell (p := ⟨gm, 0, none⟩) HB.out.lt).trans c0
    have HBr := Lib.hid (HB.out.below HO.out.1.b HB.out.lt)
    obtain ⟨m, hm⟩ : ∃ m, (L.take i).length = m := ⟨_, rfl⟩
    have hmi : m = i := by rw [← hm, List.length_take]; have := H2.out.2; omega
    have HM := Lib.hid hm
    have HMI := Lib.hid hmi
    -- the end, wherever it comes
    have fin : ∀ (hr : ∀ p t, L.drop i = p :: t → ¬ p.2 ≤ now), Hid (L.take i = dueL now L ∧ L.drop i = restL now L ∧ OkL (restL now L)) := fun hr => by
      obtain ⟨q1, q2⟩ := due_split (List.take_append_drop i L) HO.out.2 hr
      exact ⟨q1, q2, HH.out.ok.drop (due_rest now L)⟩
    have FIN := Lib.hid fin
    clear hm hmi c0 fin
    by_cases hin : i < n
    · have hx1 : (i : Int) < n := by omega
      obtain ⟨g, off, cap, p, hv, hFg, hp, y0, y1, y2, _⟩ := H2.out.1.at_ i (by have := H2.out.2; omega)
      injection hv with hA _ hc
      subst hA hc
      have hglt := HH.out.lt g hFg
      rw [← HO.out.1.b.cell (p := ⟨g, off + i * 3, none⟩) hglt] at y0
      rw [← HO.out.1.b.cell (p := ⟨g, off + i * 3 + 1, none⟩) hglt] at y1
      rw [← HO.out.1.b.cell (p := ⟨g, off + i * 3 + 2, none⟩) hglt] at y2
      obtain ⟨a, ha⟩ : ∃ a : Int, ((p.1 / 16 : Nat) : Int) = a := ⟨_, rfl⟩
      obtain ⟨b, hb⟩ : ∃ a : Int, ((p.1 % 16 : Nat) : Int) = a := ⟨_, rfl⟩
      obtain ⟨k, hk⟩ : ∃ k, p.2 = k := ⟨_, rfl⟩
      rw [hk] at y0
      rw [ha] at y1
      rw [hb] at y2
      have hdr : L.drop i = p :: L.drop (i + 1) := by
        rw [List.drop_eq_getElem_cons (by have := H2.out.2; omega)]
        rw [List.getElem?_eq_getElem (by have := H2.out.2; omega)] at hp
        injection hp with hp
        rw [hp]
      have HDR := Lib.hid hdr
      have htk : L.take (i + 1) = L.take i ++ [p] := by rw [List.take_add_one, hp]; rfl
      have HTK := Lib.hid htk
      have HAB := Lib.hid (And.intro hk (And.intro ha hb))
      have H63 : Hid (m + 1 ≤ maxLen ∧ (m + 1) * 24 ≤ 140737488355328) := by
        have := HMI.out
        have := HL.out
        have := H2.out.2
        exact ⟨by unfold maxLen; omega, by omega⟩
      have HOW := Lib.hid HO.out.1.own
      rw [HM.out] at HOW
      have HOA := Lib.hid (own_belowB HOW.out ((Below.refl wr.heap.size wr).alloc (Nat.le_refl _) (.cells #[.int .i64 k, .int .i64 a, .int .i64 b] 36)))
      clear hp htk ha hb hk hglt hFg hdr
      by_cases h1 : k ≤ now
      · have h1d : decide (k ≤ now) = true := decide_eq_true h1
        have HK := Lib.hid h1
        clear h1
        go_wp2_with (first
            | (at_builtin
               refine wpList_append_lies _ (by rfl) _ _ 33 (by rfl) w.heap.size 36 i0 _ 3 24 Try.underlying33 HI.out.1 HI.out.2.1 HI.out.2.2.1 HI.out.2.2.2 bellCells (by decide) u6 m (bellC (L.take i)) (by rfl) HOA.out ⟨wr.heap.size, 0, none⟩ 1 1 [.int .i64 k, .int .i64 a, .int .i64 b] (by rfl) (by rfl) (World.news_of_block (cs := #[.int .i64 k, .int .i64 a, .int .i64 b]) (t := 36) (fr := (0, 0)) (heap_alloc_new wr _)) (by simp [Value.oneCell']) (by decide) H63.out.1 H63.out.2 (by have := HO.out.1.b.size; simp; omega) (wr.heap.size + 1) (by simp) ?_
               intro g3 cap3 x3 hown1 hgrow hat hlt1
               have hu3 : Upd (fun q => some q = u6.ownBlock) wr x3 := ((Upd.refl _ wr).alloc (.cells #[.int .i64 k, .int .i64 a, .int .i64 b] 36)).trans ⟨hgrow.os, hgrow.tape, hgrow.output, hgrow.size, fun k hk hn => hgrow.block k hk (fun e => hn e)⟩
               rw [← HM.out] at hown1
               have HO3 := Lib.hid (HO.out.1.snoc HAB.out.1 HAB.out.2.1 HAB.out.2.2 hown1 hu3)
               clear hown1 hgrow hat hlt1 hu3))
        have HO4 := HO3
        rw [HM.out] at HO4
        refine ⟨⟨i + 1, by omega, by go_num, (by rw [HTK.out]; exact HO4.out), fun q hq => ?_⟩, by simp [intOf]; try omega⟩
        rw [HTK.out] at hq
        rcases List.mem_append.1 hq with h6 | h6
        · exact HO.out.2 q h6
        · rcases List.mem_cons.1 h6 with rfl | h6
          · rw [HAB.out.1]; exact HK.out
          · cases h6
      · have h1d : decide (k ≤ now) = false := decide_eq_false h1
        have HK := Lib.hid h1
        clear h1 HOA HOW H63
        have HF2 := Lib.hid (FIN.out (fun q t e => by rw [HDR.out] at e; injection e with e _; rw [← e, HAB.out.1]; exact HK.out))
        have hwn : (i : Int) ≤ n := by omega
        have f1 : wr.frozen? ⟨gm, 0, none⟩ = false := HBr.out.frozen 0
        have hnc : (n : Int) ≤ c := by have := H2.out.2; omega
        have hci : i < c := by omega
        go_wp2_with fail
        go_ret
        obtain ⟨q1, q2, q3⟩ := HF2.out.out
        have hO := HO.out.1.own
        rw [q1] at hO
        obtain ⟨z1, z2⟩ := due_end (off' := off + i * 3) (c' := c - i) HH.out HO.out.1.b HB.out H2.out.1 q2 rfl (by omega) (Or.inl ⟨rfl, rfl⟩)
        exact ⟨⟨_, rfl, own_setB hO HB.out.lt 0 _⟩, z1, z2⟩
    · obtain rfl : i = n := by omega
      have HF2 := Lib.hid (FIN.out (fun q t e => by rw [List.drop_eq_nil_of_le (by have := H2.out.2; omega)] at e; cases e))
      have f1 : wr.frozen? ⟨gm, 0, none⟩ = false := HBr.out.frozen 0
      rcases H2.out.1 with ⟨hv, hLn⟩ | ⟨g, off, cap, cur, hv, hFg, hblk, hle, hcap, hcells⟩
      · injection hv with e1 e2 e3
        cases e1
        cases e3
        subst e2
        have HLN := Lib.hid hLn
        clear hLn
        go_wp2_with fail
        go_ret
        have hb2 := HBr.out.set_ 0 (.slice none 0 0)
        obtain ⟨q1, q2, q3⟩ := HF2.out.out
        have hO := HO.out.1
        rw [q1] at hO
        refine ⟨⟨_, rfl, own_setB hO.own HB.out.lt 0 _⟩, ⟨HH.out.fm, ⟨_, by simpa using hb2, Or.inl ⟨rfl, ?_⟩⟩, fun k hk => ?_, q3⟩, ?_⟩
        · rw [← q2, HLN.out]; rfl
        · have := HH.out.lt k hk; have := HO.out.1.b.size; simp [World.setCell]; omega
        · exact ((Upd.of_below HO.out.1.b).mono_ge (Nat.le_refl _)).setCell (p := ⟨gm, 0, none⟩) (fun _ => HH.out.fm) _
      · injection hv with e1 e2 e3
        cases e1
        cases e3
        have hnl := H2.out.2
        have hnc : (i : Int) ≤ c := by omega
        clear hFg hblk hle hcap hcells e2 hnl
        go_wp2_with fail
        · go_ret
          obtain ⟨q1, q2, q3⟩ := HF2.out.out
          have hO := HO.out.1.own
          rw [q1] at hO
          obtain ⟨z1, z2⟩ := due_end (off' := off) (c' := 0) (n' := 0) HH.out HO.out.1.b HB.out H2.out.1 q2 (by have := H2.out.2; omega) (by have := H2.out.2; omega) (Or.inr ⟨rfl, H2.out.2.symm, rfl⟩)
          exact ⟨⟨_, rfl, own_setB hO HB.out.lt 0 _⟩, z1, z2⟩
        · go_ret
          obtain ⟨q1, q2, q3⟩ := HF2.out.out
          have hO := HO.out.1.own
          rw [q1] at hO
          obtain ⟨z1, z2⟩ := due_end (off' := off + i * 3) (c' := c - i) (n' := 0) HH.out HO.out.1.b HB.out H2.out.1 q2 (by have := H2.out.2; omega) (by have := H2.out.2; omega) (Or.inl ⟨rfl, rfl⟩)
          exact ⟨⟨_, rfl, own_setB hO HB.out.lt 0 _⟩, z1, z2⟩
end Go.Proofs.Ytbfbahedbfjcoaa
