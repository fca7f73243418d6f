/- TurnApart: the walk of the law. -/
import Derived.Test.YtogdpkeojccpcaaTurnKeeps
import Derived.Test.YtogdpkeojccpcaaTurnApLaw
namespace Go.Proofs.Ytogdpkeojccpcaa
set_option linter.all false
open Go.RowKit
attribute [local go_sem ↓] Go.wp_at_zero Go.wp_at_succ

theorem Pts.less {w : World} {A : Option Addr} {n m : Nat} {P B P' B' : Nat → Int} (h : Pts w A n P B) (hm : m ≤ n) (he : ∀ i, i < m → P i = P' i ∧ B i = B' i) : Pts w A m P' B' := by
  obtain ⟨Z, hr, hz⟩ := h.rd
  refine ⟨⟨Z, fun i hi => hr i (by omega), fun i hi => ?_⟩, by have := h.len; omega⟩
  obtain ⟨h1, h2⟩ := hz i (by omega)
  rw [h1, h2, (he i hi).1, (he i hi).2]
  exact ⟨rfl, rfl⟩
theorem own_base {w : World} {B g n cap size : Nat} {e : TypeId} {xs : List Value} (h : w.ownsRow B e size (.slice (some ⟨g, 0, none⟩) n cap) n xs) : B ≤ g := by
  rcases h.2 with ⟨h, _⟩ | ⟨g', cap', cur, hv, hb, _⟩
  · cases h
  · cases hv; exact hb
theorem emptyPart (w : World) (B : Nat) (hB : B ≤ w.heap.size) : (w.alloc (.cells #[] 36)).ownsRow B 36 3 (.slice (some ⟨w.heap.size, 0, none⟩) 0 0) 0 [] :=
  ⟨rfl, Or.inr ⟨w.heap.size, 0, #[], rfl, hB, Blk.new _ _ _, Nat.le_refl _, Nat.zero_le _, rfl, rfl⟩⟩
theorem IntsW.upd {w w' : World} {A : Option Addr} {n : Nat} {S : Nat → Int} {R : Nat → Prop} (h : IntsW w A n S) (hu : Upd R w w') (hR : ∀ b off, A = some ⟨b, off, none⟩ → ¬ R b) : IntsW w' A n S :=
  ⟨fun i hi => by
    obtain ⟨b, off, h1, h2, h3⟩ := h.at_ i hi
    exact ⟨b, off, h1, Nat.lt_of_lt_of_le h2 hu.size, (hu.cell (p := ⟨b, off + i, none⟩) h2 (hR b off h1)).trans h3⟩⟩
theorem Pts.upd {w w' : World} {A : Option Addr} {n : Nat} {P B : Nat → Int} {R : Nat → Prop} (h : Pts w A n P B) (hu : Upd R w w') (hR : ∀ b off, A = some ⟨b, off, none⟩ → ¬ R b) : Pts w' A n P B := by
  obtain ⟨Z, hr, hz⟩ := h.rd
  refine ⟨⟨Z, fun i hi => ?_, hz⟩, h.len⟩
  obtain ⟨b, off, h1, h2, h3⟩ := hr i hi
  exact ⟨b, off, h1, Nat.lt_of_lt_of_le h2 hu.size, fun j l hj => ⟨(hu.cell (p := ⟨b, _, none⟩) h2 (hR b off h1)).trans (h3 j l hj).1, (h3 j l hj).2⟩⟩
theorem plan_res2 {P B S : Nat → Int} {m mb : Nat} {n : Int} {w w' : World} {r : Ending} (h : PlanPost P B S m mb n w r w') (hE : AskIs P B S m mb n 0) :
    ∃ A c, r = .returned (.tuple #[.slice A n.toNat c, .int .i64 0]) ∧ IntsW w' A n.toNat (fun i => (runT P B S m n.toNat).2.getD i 0) ∧ ∀ b off, A = some ⟨b, off, none⟩ → w.heap.size ≤ b := by
  obtain ⟨v, E', rfl, h1, h2, h3⟩ := h
  obtain rfl := h1.fun_ hE
  have ho := h3 rfl
  obtain ⟨A, c, rfl⟩ := own_form ho
  refine ⟨A, c, rfl, ints_own ho, fun b off hA => ?_⟩
  rcases ho.2 with ⟨h, _⟩ | ⟨g, cap, cur, hv, hb, _⟩
  · injection h with h; rw [h] at hA; cases hA
  · injection hv with h; rw [h] at hA; cases hA; exact hb
def ls3 : List Leaf := [.int .i64, .int .i64, .any]
theorem pts_of_good {w : World} {base c n : Nat} {A : Option Addr} {P B : Nat → Int} {xs : List Value} (h : w.ownsRow base 36 3 (.slice A n c) n xs) (hg : GoodC ls3 n xs) (hv : ∀ i, i < n → xs.getD (i * 3 + 0) (.bool false) = .int .i64 (P i) ∧ xs.getD (i * 3 + 1) (.bool false) = .int .i64 (B i)) (hn : n ≤ maxLen) : Pts w A n P B :=
  ⟨⟨_, rd_of_own (ls := ls3) h hg, hv⟩, hn⟩
/-- The cells of servers that came in. -/
structure NewsP (w : World) (b off m : Nat) (P B : Nat → Int) (xs : List Value) : Prop where
  len : xs.length = m * 3
  at_ : ∀ (j : Nat) (u : Value), xs[j]? = some u → w.cell? ((⟨b, off, none⟩ : Addr).add j) = some u
  one : ∀ u, u ∈ xs → u.oneCell' = true
  good : GoodC ls3 m xs
  v : ∀ i, i < m → xs.getD (i * 3 + 0) (.bool false) = .int .i64 (P i) ∧ xs.getD (i * 3 + 1) (.bool false) = .int .i64 (B i)
theorem pts_news {w : World} {b off m : Nat} {P B : Nat → Int} (h : Pts w (some ⟨b, off, none⟩) m P B) : ∃ xs, NewsP w b off m P B xs := by
  obtain ⟨Z, hr, hz⟩ := h.rd
  have hget : ∀ j, j < m * 3 → ((List.range (m * 3)).map (fun j => Z (j / 3) (j % 3)))[j]? = some (Z (j / 3) (j % 3)) := fun j hj => by simp [hj]
  have hgetD : ∀ i j, i < m → j < 3 → ((List.range (m * 3)).map (fun j => Z (j / 3) (j % 3))).getD (i * 3 + j) (.bool false) = Z i j := fun i j hi hj => by
    rw [List.getD_eq_getElem?_getD, hget _ (by omega), show (i * 3 + j) / 3 = i from by omega, show (i * 3 + j) % 3 = j from by omega]
    rfl
  have hleaf : ∀ j, j < 3 → ∃ l, ls3[j]? = some l := fun j hj => ⟨ls3[j]'hj, by simp [List.getElem?_eq_getElem, hj, ls3]⟩
  refine ⟨(List.range (m * 3)).map (fun j => Z (j / 3) (j % 3)), ⟨by simp, fun j u hj => ?_, fun u hu => ?_, ⟨by simp [ls3], fun i hi j l hj => ?_⟩, fun i hi => ?_⟩⟩
  · have hjm : j < m * 3 := by
      rcases Nat.lt_or_ge j (m * 3) with h1 | h1
      · exact h1
      · rw [List.getElem?_eq_none (by simp; omega)] at hj; cases hj
    rw [hget j hjm] at hj
    injection hj with hj
    obtain ⟨b', off', hA, hlt, hcell⟩ := hr (j / 3) (by omega)
    cases hA
    obtain ⟨l, hl⟩ := hleaf (j % 3) (by omega)
    have := (hcell (j % 3) l hl).1
    rw [show (⟨b, off, none⟩ : Addr).add j = ⟨b, off + j, none⟩ from by unfold Addr.add; split <;> simp_all, ← hj, ← this]
    congr 2
    simp
    omega
  · rw [List.mem_map] at hu
    obtain ⟨j, hj, rfl⟩ := hu
    have hjm : j < m * 3 := by simpa using hj
    obtain ⟨b', off', hA, hlt, hcell⟩ := hr (j / 3) (by omega)
    have h3 : j % 3 = 0 ∨ j % 3 = 1 ∨ j % 3 = 2 := by omega
    rcases h3 with h3 | h3 | h3
    · rw [h3, (hz (j / 3) (by omega)).1]; rfl
    · rw [h3, (hz (j / 3) (by omega)).2]; rfl
    · obtain ⟨_, s0, s1, s2, hs⟩ := hcell 2 _ rfl
      rw [h3, hs]; rfl
  · have hj3 : j < 3 := by
      rcases Nat.lt_or_ge j 3 with h1 | h1
      · exact h1
      · rw [List.getElem?_eq_none (by simpa [ls3] using h1)] at hj; cases hj
    rw [show i * ls3.length + j = i * 3 + j from rfl, hgetD i j hi hj3]
    obtain ⟨b', off', hA, hlt, hcell⟩ := hr i hi
    exact (hcell j l hj).2
  · rw [hgetD i 0 hi (by decide), hgetD i 1 hi (by decide)]
    exact hz i hi
theorem news_more {m : Nat} {P B : Nat → Int} {xs : List Value} {b : Int} (hl : xs.length = m * 3) (hg : GoodC ls3 m xs) (hv : ∀ i, i < m → xs.getD (i * 3 + 0) (.bool false) = .int .i64 (P i) ∧ xs.getD (i * 3 + 1) (.bool false) = .int .i64 (B i)) (hP : P m = 64) (hB : B m = b) (hb : I64 b) :
    GoodC ls3 (m + 1) (xs ++ [.int .i64 64, .int .i64 b, .slice none 0 0]) ∧ ∀ i, i < m + 1 → (xs ++ [Value.int .i64 64, .int .i64 b, .slice none 0 0]).getD (i * 3 + 0) (.bool false) = .int .i64 (P i) ∧ (xs ++ [Value.int .i64 64, .int .i64 b, .slice none 0 0]).getD (i * 3 + 1) (.bool false) = .int .i64 (B i) := by
  refine ⟨GoodC.snoc hg (good_pt ⟨by decide, by decide⟩ hb), fun i hi => ?_⟩
  simp only [List.getD_eq_getElem?_getD]
  by_cases him : i < m
  · obtain ⟨h1, h2⟩ := hv i him
    simp only [List.getD_eq_getElem?_getD] at h1 h2
    rw [List.getElem?_append_left (by omega), List.getElem?_append_left (by omega)]
    exact ⟨h1, h2⟩
  · obtain rfl : i = m := by omega
    rw [List.getElem?_append_right (by omega), List.getElem?_append_right (by omega), hl, show i * 3 + 0 - i * 3 = 0 from by omega, show i * 3 + 1 - i * 3 = 1 from by omega, hP, hB]
    exact ⟨rfl, rfl⟩

set_option maxRecDepth 100000 in
set_option maxHeartbeats 16000000 in
theorem turnApart_core (w : World) (A0 : Option Addr) (n0 c0 : Nat) (Z0 : Nat → Nat → Value) (m0 : n0 ≤ maxLen) (r0 : Rd w A0 n0 [.int .i64, .int .i64, .any] Z0) (a1 : Int) (h1 : -9223372036854775808 ≤ a1 ∧ a1 ≤ 9223372036854775807) :
    Calls Try.prog 13 #[.slice A0 n0 c0, .int .i64 a1] w (Holds w) := by
  obtain ⟨P0, B0, hp, hI⟩ := pts_of_rd m0 r0
  have HP0 := Lib.hid hp
  have HI0 := Lib.hid hI
  have H1 := Lib.hid h1
  clear r0 hp hI m0 h1
  obtain ⟨N, hN⟩ : ∃ N, min n0 4 = N := ⟨_, rfl⟩
  have hN4 : N ≤ 4 := by omega
  have HN := Lib.hid hN
  clear hN
  obtain ⟨m, hm⟩ : ∃ m, min N 3 = m := ⟨_, rfl⟩
  have hm3 : m ≤ 3 := by omega
  have hmN : m ≤ N := by omega
  have HM := Lib.hid hm
  clear hm
  obtain ⟨bb, hbb⟩ : ∃ bb : Int, 1 + a1 % 64 = bb := ⟨_, rfl⟩
  have hb0 := Int.emod_nonneg a1 (b := 64) (by decide)
  have hb1 := Int.emod_lt_of_pos a1 (b := 64) (by decide)
  have wb : IntKind.i64.wrap (1 + a1 % 64) = bb := by rw [IntWalk.i64_in _ (by omega)]; exact hbb
  obtain ⟨P, hP⟩ : ∃ P : Nat → Int, (fun i => if i < m then mdP 20 P0 i else 64) = P := ⟨_, rfl⟩
  obtain ⟨B, hB⟩ : ∃ B : Nat → Int, (fun i => if i < m then mdB 20 P0 B0 i else bb) = B := ⟨_, rfl⟩
  have hPi : ∀ i, i < m → mdP 20 P0 i = P i ∧ mdB 20 P0 B0 i = B i := fun i hi => by rw [← hP, ← hB]; constructor <;> simp [hi]
  have hPm : P m = 64 ∧ B m = bb := by rw [← hP, ← hB]; simp
  have hok : ∀ i, i ≤ m → OkP (P i) (B i) := fun i hi => by
    by_cases him : i < m
    · obtain ⟨e1, e2⟩ := hPi i him
      rw [← e1, ← e2]
      exact (md_ok (by decide) (by decide) P0 B0 i).1
    · obtain rfl : i = m := by omega
      rw [hPm.1, hPm.2]
      unfold OkP
      omega
  have hP20 : ∀ i, i < m → P i ≤ 20 := fun i hi => by
    rw [← (hPi i hi).1]
    exact (md_ok (by decide) (by decide) P0 B0 i).2
  have HOK := Lib.hid hok
  have HPI := Lib.hid (And.intro hPi (And.intro hPm hP20))
  have HI : Hid (∀ i, i ≤ m → I64 (P i) ∧ I64 (B i)) := fun i hi => by have := hok i hi; unfold OkP at this; unfold I64; omega
  have HA1 : Hid (AskIs P B (fun _ => 0) m m 44 0) := Or.inr ⟨⟨by omega, by decide, by decide⟩, Or.inr ⟨rfl, rfl, fun i hi => ⟨hok i (by omega), Int.le_refl 0, by show (0 : Int) ≤ 1000; decide⟩⟩⟩
  have HA2 : Hid (AskIs P B (fun _ => 0) (m + 1) (m + 1) 44 0) := Or.inr ⟨⟨by omega, by decide, by decide⟩, Or.inr ⟨rfl, rfl, fun i hi => ⟨hok i (by omega), Int.le_refl 0, by show (0 : Int) ≤ 1000; decide⟩⟩⟩
  have hmk := mk_int m (by omega)
  have HBB := Lib.hid (And.intro hb0 (And.intro hb1 hbb))
  clear hok hP hB hPi hPm hP20 hbb hb0 hb1
  go_enter Try.func13, Try.ntmps13
  go_upto_region 2 with (go_at_call 51; refine (made20_any HP0.out HI0.out _).mono ?_; rintro r x1 ⟨⟨v, rfl, ho⟩, hb⟩)
  rw [HN.out] at ho
  obtain ⟨A, c, rfl⟩ := own_form ho
  have HPt := Lib.hid ((pts_own ho (fun i hi => by have := (md_ok (M := 20) (by decide) (by decide) P0 B0 i).1; unfold OkP at this; unfold I64; omega) (by unfold maxLen; omega)).less hmN HPI.out.1)
  have hcap : N ≤ c := by
    rcases ho.2 with ⟨h, h0⟩ | ⟨g, cap, cur, hv, _, _, h1, _⟩
    · omega
    · cases hv; exact h1
  have HW := Lib.hid hb
  have HCP := Lib.hid hcap
  clear ho hb hcap
  go_cut [0] from 15 to 19 (fun s0 wx => ∃ c', s0 = .slice A m c' ∧ wx = x1)
  case first =>
    have hcc := HCP.out
    have hci : (N : Int) ≤ c := by omega
    have hm : (m = N ∧ N ≤ 3) ∨ (m = 3 ∧ 3 < N) := by have := HM.out; omega
    rcases hm with ⟨rfl, h4⟩ | ⟨rfl, h4⟩
    · have h4' : (m : Int) ≤ 3 := by omega
      go_wp2_with fail
      all_goals
        go_meet
        exact ⟨_, rfl, rfl⟩
    · have h4' : (3 : Int) < N := by omega
      have h5' : (3 : Int) ≤ c := by omega
      go_wp2_with fail
      all_goals
        go_meet
        exact ⟨_, rfl, rfl⟩
  case rest =>
    obtain ⟨c', rfl, rfl⟩ := hcut
    have hm4 : (m : Int) ≤ 4 := by omega
    obtain ⟨gb, hgb⟩ : ∃ g, wc.heap.size = g := ⟨_, rfl⟩
    have HGB := Lib.hid hgb
    have hbel : Below wc.heap.size wc (wc.alloc (.cells (arrF (fun _ => 0) m) 3)) := (Below.refl _ _).alloc (Nat.le_refl _) _
    have HG : Hid (Blk (wc.alloc (.cells (arrF (fun _ => 0) m) 3)) wc.heap.size 3 (arrF (fun _ => 0) m)) := Blk.new _ _ _
    have HPt1 := Lib.hid (HPt.out.keep hbel)
    have HW1 := Lib.hid (HW.out.trans (hbel.mono HW.out.size))
    clear hbel hgb
    obtain ⟨i0, hi0, hz0, hz1, hz2⟩ := info_parts infoPart
    have HPart := Lib.hid (And.intro hi0 (And.intro hz0 (And.intro hz1 hz2)))
    obtain ⟨j0, yi0, yz0, yz1, yz2⟩ := info_parts infoInt
    have HInt := Lib.hid (And.intro yi0 (And.intro yz0 (And.intro yz1 yz2)))
    clear hi0 hz0 hz1 hz2 yi0 yz0 yz1 yz2
    go_upto_region 6 with (go_at_call 45; refine (plan_any HPt1.out (fun i hi => HI.out i (by omega)) (ints_arr HG.out) _ _ 44).mono ?_; rintro r xa ⟨hpp, hb⟩; obtain ⟨Aa, ca, rfl, hap, haa⟩ := plan_res2 hpp HA1.out; have HAA := Lib.hid haa; have HPt2 := Lib.hid (HPt1.out.keep hb); have HW2 := Lib.hid (HW1.out.trans (hb.mono HW1.out.size)); have HG2 := Lib.hid (HG.out.below hb HG.out.lt); have HRa := Lib.hid hap; clear hpp hb hap haa)
    go_cut [9] from 30 to 38 (fun s9 wx => ∃ g9 c', s9 = .slice (some ⟨g9, 0, none⟩) (m + 1) c' ∧ Hid (xa.heap.size ≤ g9 ∧ Pts wx (some ⟨g9, 0, none⟩) (m + 1) P B ∧ Below xa.heap.size xa wx))
    case first =>
      by_cases hm0 : m = 0
      · subst hm0
        have hown0 := Lib.hid (emptyPart xa xa.heap.size (Nat.le_refl _))
        have hnews := news_more (m := 0) (xs := []) (P := P) (B := B) rfl (GoodC.nil _) (fun i hi => by omega) HPI.out.2.1.1 HPI.out.2.1.2 (by have := HBB.out; unfold I64; omega)
        have HNW := Lib.hid hnews
        clear hnews hmk
        cases A with
        | none =>
          have H63 : Hid (0 + 1 ≤ maxLen ∧ (0 + 1) * 40 ≤ 140737488355328) := ⟨by unfold maxLen; omega, by omega⟩
          go_wp2_with (first
            | (go_at_call 22; refine (bring_any a1 64 _ H1.out ⟨by decide, by decide⟩).mono ?_; rintro r y1 ⟨rfl, -, rfl⟩; have T2 := Lib.hid True.intro)
            | (at_builtin
               have _tk := T2
               refine wpList_append_lies _ (by rfl) _ _ 22 (by rfl) xa.heap.size 36 i0 _ 3 40 Try.underlying22 HPart.out.1 HPart.out.2.1 HPart.out.2.2.1 HPart.out.2.2.2 partCells (by decide) (.slice (some ⟨xa.heap.size, 0, none⟩) 0 0) 0 [] (by rfl) (hown0.out.alloc _) ⟨xa.heap.size + 1, 0, none⟩ 1 1 [.int .i64 64, .int .i64 bb, .slice none 0 0] (by rfl) (by rfl) (World.news_of_block (cs := #[.int .i64 64, .int .i64 bb, .slice none 0 0]) (t := 36) (fr := (0, 0)) (blk_new2 _ _ _ _)) (by simp [Value.oneCell']) (by decide) H63.out.1 H63.out.2 (by simp; omega) _ rfl ?_
               intro g cap w2 hown1 hgrow hat hlt1
               have HF := Lib.hid (And.intro hown1 hgrow)
               clear hown1 hgrow hat hlt1 _tk))
          go_meet
          refine ⟨g, cap, rfl, own_base HF.out.1, pts_of_good HF.out.1 HNW.out.1 HNW.out.2 (by unfold maxLen; omega), ?_⟩
          exact (below_alloc2 xa _ _).grown HF.out.2 (by simp; omega) (fun k hk => by simp [Value.ownBlock] at hk; omega)
        | some a =>
          have H63 : Hid (0 + 1 ≤ maxLen ∧ (0 + 1) * 40 ≤ 140737488355328) := ⟨by unfold maxLen; omega, by omega⟩
          go_wp2_with (first
            | (go_at_call 22; refine (bring_any a1 64 _ H1.out ⟨by decide, by decide⟩).mono ?_; rintro r y1 ⟨rfl, -, rfl⟩; have T2 := Lib.hid True.intro)
            | (at_builtin
               have _tk := T2
               refine wpList_append_lies _ (by rfl) _ _ 22 (by rfl) xa.heap.size 36 i0 _ 3 40 Try.underlying22 HPart.out.1 HPart.out.2.1 HPart.out.2.2.1 HPart.out.2.2.2 partCells (by decide) (.slice (some ⟨xa.heap.size, 0, none⟩) 0 0) 0 [] (by rfl) (hown0.out.alloc _) ⟨xa.heap.size + 1, 0, none⟩ 1 1 [.int .i64 64, .int .i64 bb, .slice none 0 0] (by rfl) (by rfl) (World.news_of_block (cs := #[.int .i64 64, .int .i64 bb, .slice none 0 0]) (t := 36) (fr := (0, 0)) (blk_new2 _ _ _ _)) (by simp [Value.oneCell']) (by decide) H63.out.1 H63.out.2 (by simp; omega) _ rfl ?_
               intro g cap w2 hown1 hgrow hat hlt1
               have HF := Lib.hid (And.intro hown1 hgrow)
               clear hown1 hgrow hat hlt1 _tk))
          go_meet
          refine ⟨g, cap, rfl, own_base HF.out.1, pts_of_good HF.out.1 HNW.out.1 HNW.out.2 (by unfold maxLen; omega), ?_⟩
          exact (below_alloc2 xa _ _).grown HF.out.2 (by simp; omega) (fun k hk => by simp [Value.ownBlock] at hk; omega)
      · obtain ⟨Z, hr, _⟩ := HPt2.out.rd
        obtain ⟨b, off, rfl, hlt, _⟩ := hr 0 (by omega)
        have hown0 := Lib.hid (emptyPart xa xa.heap.size (Nat.le_refl _))
        have HPt3 := Lib.hid (HPt2.out.keep ((Below.refl xa.heap.size xa).alloc (Nat.le_refl _) (.cells #[] 36)))
        obtain ⟨xs, hxs⟩ := pts_news HPt3.out
        have HX := Lib.hid hxs
        have hnews := news_more (P := P) (B := B) hxs.len hxs.good hxs.v HPI.out.2.1.1 HPI.out.2.1.2 (by have := HBB.out; unfold I64; omega)
        have HNW := Lib.hid hnews
        have hpos := Lib.hid (show 0 < m by omega)
        have H62 : Hid (0 + m ≤ maxLen ∧ (0 + m) * 40 ≤ 140737488355328) := ⟨by unfold maxLen; omega, by omega⟩
        have H63 : Hid (m + 1 ≤ maxLen ∧ (m + 1) * 40 ≤ 140737488355328) := ⟨by unfold maxLen; omega, by omega⟩
        have T1 := Lib.hid True.intro
        clear hnews hmk hr hxs hlt hm0
        go_wp2_with (first
            | (go_at_call 22; refine (bring_any a1 64 _ H1.out ⟨by decide, by decide⟩).mono ?_; rintro r y1 ⟨rfl, -, rfl⟩; have T2 := Lib.hid True.intro)
            | (at_builtin
               have _tk := T1
               refine wpList_append_lies _ (by rfl) _ _ 22 (by rfl) xa.heap.size 36 i0 _ 3 40 Try.underlying22 HPart.out.1 HPart.out.2.1 HPart.out.2.2.1 HPart.out.2.2.2 partCells (by decide) (.slice (some ⟨xa.heap.size, 0, none⟩) 0 0) 0 [] (by rfl) hown0.out ⟨b, off, none⟩ m c' xs (by rfl) HX.out.len HX.out.at_ HX.out.one hpos.out H62.out.1 H62.out.2 (by simp) _ rfl ?_
               intro g1 cap1 w1 hown1 hgrow hat hlt1
               rw [Nat.zero_add, List.nil_append] at hown1
               have HF1 := Lib.hid (And.intro hown1 hgrow)
               have HS1 : Hid (xa.heap.size ≤ w1.heap.size) := by have := hgrow.size; simp at this; exact (by omega : xa.heap.size ≤ w1.heap.size)
               clear hown1 hgrow hat hlt1 T1 _tk)
            | (at_builtin
               have _tk := T2
               refine wpList_append_lies _ (by rfl) _ _ 22 (by rfl) xa.heap.size 36 i0 _ 3 40 Try.underlying22 HPart.out.1 HPart.out.2.1 HPart.out.2.2.1 HPart.out.2.2.2 partCells (by decide) (.slice (some ⟨g1, 0, none⟩) m cap1) m xs (by rfl) (HF1.out.1.alloc _) ⟨w1.heap.size, 0, none⟩ 1 1 [.int .i64 64, .int .i64 bb, .slice none 0 0] (by rfl) (by rfl) (World.news_of_block (cs := #[.int .i64 64, .int .i64 bb, .slice none 0 0]) (t := 36) (fr := (0, 0)) (Blk.new w1 _ _)) (by simp [Value.oneCell']) (by decide) H63.out.1 H63.out.2 (by have := HS1.out; simp; omega) _ rfl ?_
               intro g cap w2 hown1 hgrow hat hlt1
               have HF := Lib.hid (And.intro hown1 hgrow)
               clear hown1 hgrow hat hlt1 _tk))
        go_meet
        have ho := HF.out.1
        have hg1 : xa.heap.size ≤ g1 := by
          rcases HF1.out.1.2 with ⟨h, _⟩ | ⟨g', cap', cur, hv, hb, _⟩
          · cases h
          · cases hv; exact hb
        refine ⟨g, cap, rfl, own_base HF.out.1, pts_of_good ho HNW.out.1 HNW.out.2 (by unfold maxLen; omega), ?_⟩
        have b1 : Below xa.heap.size xa w1 := ((Below.refl xa.heap.size xa).alloc (Nat.le_refl _) _).grown HF1.out.2 (by simp) (fun k hk => by simp [Value.ownBlock] at hk; omega)
        exact (b1.alloc HS1.out _).grown HF.out.2 (by have := HS1.out; simp; omega) (fun k hk => by simp [Value.ownBlock] at hk; omega)
    case rest =>
      obtain ⟨g9, cl, rfl, HL⟩ := hcut
      clear hmk
      rw [HGB.out] at HG2 ⊢
      have HG3 := Lib.hid (HG2.out.below HL.out.2.2 HG2.out.lt)
      have hown : wc.ownsRow 0 3 1 (.slice (some ⟨gb, 0, none⟩) m m) m ((List.replicate m (0 : Int)).map (Value.int .i64)) := by
        refine ⟨by simp, Or.inr ⟨gb, m, arrF (fun _ => 0) m, rfl, Nat.zero_le _, HG3.out, Nat.le_refl _, by unfold maxLen; omega, by unfold arrF; simp, ?_⟩⟩
        apply List.ext_getElem?
        intro i
        rw [List.getElem?_take]
        by_cases him : i < m
        · rw [if_pos (by omega), Array.getElem?_toList, arrF_at _ _ _ him]
          simp [him]
        · rw [if_neg (by omega)]
          simp [him]
      have HO := Lib.hid hown
      have H63 : Hid (m + 1 ≤ maxLen ∧ (m + 1) * 8 ≤ 140737488355328) := ⟨by unfold maxLen; omega, by omega⟩
      have HRa2 := Lib.hid (HRa.out.keep HL.out.2.2)
      have HW3 := Lib.hid (HW2.out.trans (HL.out.2.2.mono HW2.out.size))
      clear hown
      go_wp2_with (first
        | (at_builtin
           refine wpList_append_lies _ (by rfl) _ _ 29 (by rfl) 0 3 j0 _ 1 8 Try.underlying29 HInt.out.1 HInt.out.2.1 HInt.out.2.2.1 HInt.out.2.2.2 (by rfl) (by decide) (.slice (some ⟨gb, 0, none⟩) m m) m ((List.replicate m (0 : Int)).map (Value.int .i64)) (by rfl) (HO.out.alloc _) ⟨wc.heap.size, 0, none⟩ 1 1 [.int .i64 0] (by rfl) (by rfl) (World.news_of_block (cs := #[.int .i64 0]) (t := 3) (fr := (0, 0)) (heap_alloc_new wc _)) (by simp [Value.oneCell']) (by decide) H63.out.1 H63.out.2 (Nat.zero_le _) _ rfl ?_
           intro g cap w2 hown1 hgrow hat hlt1
           have hu : Upd (· = gb) wc w2 := ((Upd.refl (· = gb) wc).alloc (.cells #[.int .i64 0] 3)).trans ⟨hgrow.os, hgrow.tape, hgrow.output, hgrow.size, fun k hk hn => hgrow.block k hk (fun e => hn (by simpa [Value.ownBlock] using e))⟩
           have hgs : gb < xa.heap.size := HG2.out.lt
           have HPl := Lib.hid (HL.out.2.1.upd hu (fun b off hA e => by cases hA; have := HL.out.1; omega))
           have HRa3 := Lib.hid (HRa2.out.upd hu (fun b off hA e => by have := HAA.out b off hA; simp at this; have := HGB.out; omega))
           have HW4 := Lib.hid (HW3.out.trans (hu.below HW3.out.size (fun k hk => by rw [hk, ← HGB.out]; exact HW.out.size)))
           have e0 : (List.replicate m (0 : Int)).map (Value.int .i64) ++ [Value.int .i64 0] = (List.replicate (m + 1) (0 : Int)).map (Value.int .i64) := by rw [List.replicate_succ', List.map_append]; rfl
           rw [e0] at hown1
           have hob := ints_own hown1
           have HOb : Hid (IntsW w2 (some ⟨g, 0, none⟩) (m + 1) (fun _ => 0)) := ⟨fun i hi => by
             obtain ⟨b, off, k1, k2, k3⟩ := hob.at_ i hi
             refine ⟨b, off, k1, k2, k3.trans ?_⟩
             simp [List.getD_eq_getElem?_getD, hi]⟩
           clear hown1 hgrow hat hlt1 hob hu hgs e0)
        | (go_at_call 45; refine (plan_any (HPl.out) (fun i hi => HI.out i (by omega)) HOb.out _ _ 44).mono ?_; rintro r xb ⟨hpp, hb⟩
           obtain ⟨Ab, cb, rfl, hap, -⟩ := plan_res2 hpp HA2.out
           have HRb := Lib.hid hap
           have HRa4 := Lib.hid (HRa3.out.keep hb)
           have HW5 := Lib.hid (HW4.out.trans (hb.mono HW4.out.size))
           clear hpp hb hap))
      have hRa : IntsW xb Aa 44 (fun i => (runT P B (fun _ => 0) m 44).2.getD i 0) := HRa4.out
      have hRb : IntsW xb Ab 44 (fun i => (runT P B (fun _ => 0) (m + 1) 44).2.getD i 0) := HRb.out
      have HA5 := Lib.hid (And.intro hRa hRb)
      clear hRa hRb
      go_loopw [12] (fun vi wr => ∃ t : Nat, t ≤ 44 ∧ vi = .int .i64 (t : Int) ∧ Hid (Below xb.heap.size xb wr)) (fun vi _ => 44 - (intOf vi).toNat)
      case atStart => exact ⟨0, by omega, rfl, Below.refl _ _⟩
      case round =>
        obtain ⟨t, ht, rfl, hb⟩ := hrel
        by_cases htn : t < 44
        · have hx0 : (0 : Int) ≤ t := by omega
          have hx1 : (t : Int) < 44 := by omega
          have w1 : IntKind.i64.wrap ((t : Int) + 1) = (t : Int) + 1 := IntWalk.i64_in _ (by omega)
          obtain ⟨ga, oa, rfl, hla, da⟩ := HA5.out.1.at_ t htn
          obtain ⟨gc, oc, rfl, hlc, dc⟩ := HA5.out.2.at_ t htn
          rw [← hb.out.cell (p := ⟨ga, _, none⟩) hla] at da
          rw [← hb.out.cell (p := ⟨gc, _, none⟩) hlc] at dc
          have hlaw := ap_law (P := P) (B := B) (S := fun _ => 0) (m := m) HPI.out.2.2 (fun i _ => rfl) HPI.out.2.1.1 htn
          obtain ⟨za, hza⟩ : ∃ z, (runT P B (fun _ => 0) m 44).2.getD t 0 = z := ⟨_, rfl⟩
          obtain ⟨zc, hzc⟩ : ∃ z, (runT P B (fun _ => 0) (m + 1) 44).2.getD t 0 = z := ⟨_, rfl⟩
          rw [hza] at hlaw
          rw [hzc] at hlaw
          have da' : wr.cell? ⟨ga, oa + t, none⟩ = some (.int .i64 za) := by rw [← hza]; exact da
          have dc' : wr.cell? ⟨gc, oc + t, none⟩ = some (.int .i64 zc) := by rw [← hzc]; exact dc
          clear hza hzc hla hlc da dc
          rcases hlaw with ⟨j, rfl, rfl⟩ | ⟨rfl, rfl | rfl⟩
          · have d1 : decide ((j : Int) ≥ 0) = true := by simp
            have d2 : decide ((j : Int) < 0) = false := decide_eq_false (by omega)
            have d3 : ((j : Int) != (j : Int)) = false := by simp
            go_wp2_with fail
            go_quiet (fail)
            go_wp2_with fail
            exact ⟨⟨t + 1, by omega, by go_num, belowN hb.out _⟩, by simp [intOf]; try omega⟩
          · go_wp2_with fail
            go_quiet (fail)
            go_wp2_with fail
            exact ⟨⟨t + 1, by omega, by go_num, belowN hb.out _⟩, by simp [intOf]; try omega⟩
          · have d1 : decide ((m : Int) ≥ 0) = true := by simp
            have d3 : ((m : Int) != (m : Int)) = false := by simp
            go_wp2_with fail
            go_quiet (fail)
            go_wp2_with fail
            exact ⟨⟨t + 1, by omega, by go_num, belowN hb.out _⟩, by simp [intOf]; try omega⟩
        · obtain rfl : t = 44 := by omega
          go_wp2_with (go_at_call 48; refine (turn_works _).mono ?_; rintro r y1 ⟨rfl, hb2⟩; have HB2 := Lib.hid hb2; clear hb2)
          go_ret
          have z1 := HW5.out.trans (hb.out.mono HW5.out.size)
          exact ⟨rfl, z1.trans (HB2.out.mono z1.size)⟩
end Go.Proofs.Ytogdpkeojccpcaa
