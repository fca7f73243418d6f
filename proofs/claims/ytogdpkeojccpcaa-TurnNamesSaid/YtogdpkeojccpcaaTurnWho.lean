/- The walk of Who, the program's and the document's. -/
import Derived.Test.YtogdpkeojccpcaaTurnRef
import Derived.Test.YtogdpkeojccpcaaPurseNames
import Derived.Deep.CutRange
namespace Go.Proofs.Ytogdpkeojccpcaa
set_option linter.all false
open Go.RowKit

/-- A purse, or none, as Who sees it. -/
def SlotP (w : World) (v : Value) (x : SlotV) : Prop :=
  ((v = .pointer none ∨ ∃ g, v = .pointer (some ⟨g, 0, none⟩) ∧ Blk w g 66 #[.int .i64 0, .int .i64 0, .int .i64 0, .int .i64 0, .pointer none, .bool false, .bool false, .int .i64 0]) ∧ x = ⟨false, 0, 0⟩) ∨
  ∃ g s, v = .pointer (some ⟨g, 0, none⟩) ∧ PrP w g s ∧ 1 ≤ s.p ∧ x = ⟨s.gn, s.l, s.e⟩
theorem SlotP.below {w w' : World} {v : Value} {x : SlotV} (h : SlotP w v x) (hb : Below w.heap.size w w') : SlotP w' v x := by
  rcases h with ⟨h1, h2⟩ | ⟨g, s, h1, h2, h3⟩
  · refine Or.inl ⟨?_, h2⟩
    rcases h1 with h1 | ⟨g, h1, h3⟩
    · exact Or.inl h1
    · exact Or.inr ⟨g, h1, h3.below hb h3.lt⟩
  · exact Or.inr ⟨g, s, h1, h2.below hb, h3⟩
theorem SlotP.none_ {w : World} {v : Value} (h : v = .pointer none ∨ ∃ g, v = .pointer (some ⟨g, 0, none⟩) ∧ Blk w g 66 #[.int .i64 0, .int .i64 0, .int .i64 0, .int .i64 0, .pointer none, .bool false, .bool false, .int .i64 0]) : IsNone w v := by
  rcases h with rfl | ⟨g, rfl, hb⟩
  · exact none_nil w
  · exact none_zero hb
theorem SlotP.ptr {w : World} {v : Value} {x : SlotV} (h : SlotP w v x) : ∃ a, v = .pointer a := by
  rcases h with ⟨h1 | ⟨g, h1, _⟩, _⟩ | ⟨g, s, h1, _⟩
  · exact ⟨_, h1⟩
  · exact ⟨_, h1⟩
  · exact ⟨_, h1⟩
theorem gone_slot {w : World} {v : Value} {x : SlotV} (b : Bool) (h : SlotP w v x) (hb : x.gn = b) : Calls Try.prog 43 #[v] w fun r w' => r = .returned (.bool b) ∧ w = w' := by
  subst hb
  rcases h with ⟨h1, rfl⟩ | ⟨g, s, rfl, h2, h3, rfl⟩
  · exact ngone (SlotP.none_ h1)
  · exact gone_any h2 h3
theorem left_slot {w : World} {v : Value} {x : SlotV} (l : Int) (h : SlotP w v x) (hl : x.l = l) : Calls Try.prog 32 #[v] w fun r w' => r = .returned (.int .i64 l) ∧ w = w' := by
  subst hl
  rcases h with ⟨h1, rfl⟩ | ⟨g, s, rfl, h2, h3, rfl⟩
  · exact nleft (SlotP.none_ h1)
  · exact left_any h2 h3
theorem ends_slot {w : World} {v : Value} {x : SlotV} (e : Int) (h : SlotP w v x) (he : x.e = e) : Calls Try.prog 34 #[v] w fun r w' => r = .returned (.int .i64 e) ∧ w = w' := by
  subst he
  rcases h with ⟨h1, rfl⟩ | ⟨g, s, rfl, h2, h3, rfl⟩
  · exact nends (SlotP.none_ h1)
  · exact ends_any h2 h3

/-- A row of purses. -/
structure RowV (w : World) (A : Option Addr) (n : Nat) (vs : Nat → Value) (f : Nat → SlotV) : Prop where
  at_ : ∀ i, i < n → ∃ g, A = some ⟨g, 0, none⟩ ∧ g < w.heap.size ∧ w.cell? ⟨g, i, none⟩ = some (vs i)
  slot : ∀ i, i < n → i < 4 → SlotP w (vs i) (f i)
theorem RowV.below {w w' : World} {A : Option Addr} {n : Nat} {vs : Nat → Value} {f : Nat → SlotV} (h : RowV w A n vs f) (hb : Below w.heap.size w w') : RowV w' A n vs f :=
  ⟨fun i hi => by
    obtain ⟨g, h1, h2, h3⟩ := h.at_ i hi
    exact ⟨g, h1, Nat.lt_of_lt_of_le h2 hb.size, (hb.cell (p := ⟨g, i, none⟩) h2).trans h3⟩, fun i hi h4 => (h.slot i hi h4).below hb⟩

structure WhoI (w wr : World) (k n : Nat) (s : HS) (f : Nat → SlotV) : Prop where
  hp : HpO wr (fun q => w.heap.size ≤ q) (w.heap.size + 1) w.heap.size n s
  rep : RepP n s (rankM f k)
  heap : HeapP n s
  nk : n ≤ k
  b : Below w.heap.size w wr
theorem WhoI.put {w wr y : World} {k n : Nat} {s s' : HS} {f : Nat → SlotV} (h : WhoI w wr k n s f) (hc : candW (f k)) (hp : PutPost wr y (fun q => w.heap.size ≤ q) (w.heap.size + 1) w.heap.size (n + 1) (fun z => if z = k then some (f k).e else rankM f k z) s') : WhoI w y (k + 1) (n + 1) s' f :=
  ⟨hp.hp.mono (fun q hq => by rcases hq with h1 | h1; exact h1; exact Nat.le_trans h.b.size h1.1), by rw [← rankM_put hc]; exact hp.rep, hp.heap, by have := h.nk; omega, h.b.trans (hp.u.below h.b.size fun _ h => h)⟩
theorem WhoI.skip {w wr : World} {k n : Nat} {s : HS} {f : Nat → SlotV} (h : WhoI w wr k n s f) (hc : ¬ candW (f k)) : WhoI w wr (k + 1) n s f :=
  ⟨h.hp, by rw [rankM_skip hc]; exact h.rep, h.heap, by have := h.nk; omega, h.b⟩

set_option maxRecDepth 100000 in
set_option maxHeartbeats 4000000 in
theorem who_any {w : World} {A : Option Addr} {n c : Nat} {vs : Nat → Value} {f : Nat → SlotV} (h : RowV w A n vs f) (hc : n ≤ c) :
    Calls Try.prog 49 #[.slice A n c] w fun r w' => r = .returned (whoV (whoF f (min n 4))) ∧ Below w.heap.size w w' := by
  obtain ⟨m, hm⟩ : ∃ m, min n 4 = m := ⟨_, rfl⟩
  rw [hm]
  have HR := Lib.hid h
  have HM := Lib.hid hm
  clear h hm
  have hmi : min (n : Int) 4 = m := by have := HM.out; omega
  go_enter Try.func49, Try.ntmps49
  have hci : (n : Int) ≤ c := by omega
  have HCI := Lib.hid hc
  clear hc hmi
  go_upto_region 2 with (go_at_call 64; refine (rknew_any w).mono ?_; rintro r w1 ⟨rfl, hr, hb, hbel⟩; have HN := Lib.hid (And.intro hr (And.intro hb hbel)); clear hr hb hbel)
  go_cut [13, 14, 15] from 9 to 15 (fun s13 s14 s15 wx => ∃ c', s13 = .slice A m c' ∧ s14 = .int .i64 (m : Int) ∧ s15 = .int .i64 0 ∧ wx = w1)
  case first =>
    have hm : (m = n ∧ n ≤ 4) ∨ (m = 4 ∧ 4 < n) := by have := HM.out; omega
    rcases hm with ⟨rfl, h4⟩ | ⟨rfl, h4⟩
    · have h4' : (m : Int) ≤ 4 := by omega
      go_wp2_with fail
      all_goals
        go_meet
        exact ⟨_, rfl, rfl, rfl, rfl⟩
    · have h4' : (4 : Int) < n := by omega
      have h5' : (4 : Int) ≤ c := by omega
      go_wp2_with fail
      all_goals
        go_meet
        exact ⟨_, rfl, rfl, rfl, rfl⟩
  case rest =>
    obtain ⟨c', rfl, rfl, rfl, rfl⟩ := hcut
    go_wp2_with fail
    have HI0 : Hid (WhoI w wc 0 0 ⟨fun _ => 0, fun _ => 0, fun _ => 0⟩ f) := by
      refine ⟨⟨HN.out.1, Nat.le_refl _, _, [], HN.out.2.1, World.ownsRow_nil _ _ _ _, fun b hb => by simp [Value.ownBlock] at hb, fun i hi => by omega⟩, ?_, fun j _ hj => by omega, Nat.le_refl _, HN.out.2.2⟩
      rw [rankM_zero]
      exact ⟨fun j hj => by omega, fun x k hk => by simp at hk, fun x _ _ => rfl⟩
    clear HN
    have HM2 : Hid (m ≤ n ∧ m ≤ 4) := by have := HM.out; exact ⟨by omega, by omega⟩
    go_loopw [15] (fun vi wr => ∃ k n' s, k ≤ m ∧ vi = .int .i64 (k : Int) ∧ Hid (WhoI w wr k n' s f)) (fun vi _ => m - (intOf vi).toNat)
    case atStart => exact ⟨0, 0, _, by omega, rfl, HI0⟩
    case round =>
      obtain ⟨k, n', s, hk, rfl, HI⟩ := hrel
      clear HI0
      by_cases hkm : k < m
      · have hx0 : (0 : Int) ≤ k := by omega
        have hx1 : (k : Int) < m := by omega
        have w1 : IntKind.i64.wrap ((k : Int) + 1) = (k : Int) + 1 := IntWalk.i64_in _ (by have := HM2.out; omega)
        have HR' := Lib.hid (HR.out.below HI.out.b)
        obtain ⟨ga, rfl, hga, ck⟩ := HR'.out.at_ k (by have := HM2.out; omega)
        obtain ⟨v, hv⟩ : ∃ v, vs k = v := ⟨_, rfl⟩
        have hsl := HR'.out.slot k (by have := HM2.out; omega) (by have := HM2.out; omega)
        rw [hv] at ck hsl
        obtain ⟨a, rfl⟩ := hsl.ptr
        have HS := Lib.hid hsl
        clear hv hga hsl
        cases hgn : (f k).gn with
        | true =>
          have HG := Lib.hid hgn
          have HC : Hid (¬ candW (f k)) := fun h => by rw [h.1] at hgn; cases hgn
          clear hgn
          go_wp2_with (go_at_call 43; refine (gone_slot true HS.out HG.out).mono ?_; rintro r w1 ⟨rfl, rfl⟩)
          refine ⟨⟨k + 1, n', s, by omega, by go_num, HI.out.skip HC.out⟩, by simp [intOf]; try omega⟩
        | false =>
          have HG := Lib.hid hgn
          clear hgn
          obtain ⟨l, hl⟩ : ∃ l, (f k).l = l := ⟨_, rfl⟩
          have HL := Lib.hid hl
          clear hl
          by_cases hl0 : 0 < l
          · have hd0 : decide (l > 0) = true := decide_eq_true hl0
            have HC : Hid (candW (f k)) := ⟨HG.out, by rw [HL.out]; exact hl0⟩
            have hkn : k < 64 ∧ n' < 64 := by have := HM2.out; have := HI.out.nk; omega
            have HK := Lib.hid hkn
            clear hkn
            go_wp2_with (first
              | (go_at_call 43; refine (gone_slot false HS.out HG.out).mono ?_; rintro r w1 ⟨rfl, rfl⟩)
              | (go_at_call 32; refine (left_slot l HS.out HL.out).mono ?_; rintro r w1 ⟨rfl, rfl⟩)
              | (go_at_call 34; refine (ends_slot (f k).e HS.out rfl).mono ?_; rintro r w1 ⟨rfl, rfl⟩)
              | (go_at_call 65; refine (put_any HI.out.hp k (f k).e HK.out.1 HK.out.2 HI.out.rep HI.out.heap (rankM_at f k)).mono ?_; rintro r y ⟨rfl, s', hp⟩; have HP := Lib.hid hp; clear hp))
            refine ⟨⟨k + 1, n' + 1, s', by omega, by go_num, HI.out.put HC.out HP.out⟩, by simp [intOf]; try omega⟩
          · have hd0 : decide (l > 0) = false := decide_eq_false hl0
            have HC : Hid (¬ candW (f k)) := fun h => by have := h.2; rw [HL.out] at this; exact hl0 this
            go_wp2_with (first
              | (go_at_call 43; refine (gone_slot false HS.out HG.out).mono ?_; rintro r w1 ⟨rfl, rfl⟩)
              | (go_at_call 32; refine (left_slot l HS.out HL.out).mono ?_; rintro r w1 ⟨rfl, rfl⟩))
            refine ⟨⟨k + 1, n', s, by omega, by go_num, HI.out.skip HC.out⟩, by simp [intOf]; try omega⟩
      · obtain rfl : k = m := by omega
        have HF : Hid (∃ j : Nat, (if n' = 0 then 0 else s.I 0) = (j : Int) ∧ whoF f k = (if n' = 0 then none else some j)) := by
          obtain ⟨h1, h2⟩ := rank_who (by have := HM2.out; omega) HI.out.rep HI.out.heap
          by_cases h0 : n' = 0
          · exact ⟨0, by rw [if_pos h0]; rfl, by rw [if_pos h0]; exact h1 h0⟩
          · obtain ⟨j, h3, h4⟩ := h2 h0
            exact ⟨j, by rw [if_neg h0]; exact h3, by rw [if_neg h0]; exact h4⟩
        obtain ⟨j, hj1, hj2⟩ := HF.out
        obtain ⟨kk, hkk⟩ : ∃ z : Int, (if n' = 0 then 0 else s.K 0) = z := ⟨_, rfl⟩
        obtain ⟨b, hb⟩ : ∃ z : Bool, decide (n' ≠ 0) = z := ⟨_, rfl⟩
        have HE : Hid (whoF f k = (if n' = 0 then none else some j) ∧ decide (n' ≠ 0) = b ∧ (n' = 0 → j = 0)) := ⟨hj2, hb, fun h => by rw [if_pos h] at hj1; omega⟩
        have hfir := first_any HI.out.hp
        rw [hj1, hkk, hb] at hfir
        have HFI := Lib.hid hfir
        clear hfir hj1 hj2 hkk hb HF
        go_wp2_with (go_at_call 66; refine HFI.out.mono ?_; rintro r y ⟨rfl, hb⟩; have HB := Lib.hid hb; clear hb)
        go_ret2
        obtain ⟨h1, h2, h3⟩ := HE.out
        refine ⟨?_, HI.out.b.trans (HB.out.mono HI.out.b.size)⟩
        rw [h1, ← h2]
        by_cases h0 : n' = 0
        · rw [if_pos h0, h3 h0]; simp [whoV, h0]
        · rw [if_neg h0]; simp [whoV, h0]
end Go.Proofs.Ytogdpkeojccpcaa
