/- Rows of servers that the call itself builds: servers. -/
import Derived.Test.YtogdpkeojccpcaaShareRef
namespace Go.Proofs.Ytogdpkeojccpcaa
set_option linter.all false
open Go.RowKit

/-- The cells of so many servers. -/
def ptC (P B : Nat → Int) : Nat → List Value
  | 0 => []
  | k + 1 => ptC P B k ++ [.int .i64 (P k), .int .i64 (B k), .slice none 0 0]

theorem ptC_len (P B : Nat → Int) (k : Nat) : (ptC P B k).length = k * 3 := by
  induction k with
  | zero => rfl
  | succ k ih => rw [ptC, List.length_append, ih]; simp; omega
theorem ptC_at (P B : Nat → Int) (k i : Nat) (hi : i < k) : (ptC P B k).getD (i * 3 + 0) (.bool false) = .int .i64 (P i) ∧ (ptC P B k).getD (i * 3 + 1) (.bool false) = .int .i64 (B i) := by
  induction k with
  | zero => omega
  | succ k ih =>
    have hl := ptC_len P B k
    by_cases hik : i < k
    · obtain ⟨h1, h2⟩ := ih hik
      rw [ptC]
      constructor
      · rw [List.getD_eq_getElem?_getD, List.getElem?_append_left (by omega), ← List.getD_eq_getElem?_getD]; exact h1
      · rw [List.getD_eq_getElem?_getD, List.getElem?_append_left (by omega), ← List.getD_eq_getElem?_getD]; exact h2
    · obtain rfl : i = k := by omega
      rw [ptC]
      constructor
      · rw [List.getD_eq_getElem?_getD, List.getElem?_append_right (by omega), hl, show i * 3 + 0 - i * 3 = 0 from by omega]; rfl
      · rw [List.getD_eq_getElem?_getD, List.getElem?_append_right (by omega), hl, show i * 3 + 1 - i * 3 = 1 from by omega]; rfl
theorem good_pt {p b : Int} (hp : I64 p) (hb : I64 b) : GoodC [.int .i64, .int .i64, .any] 1 [.int .i64 p, .int .i64 b, .slice none 0 0] := by
  refine ⟨rfl, fun i hi j l hj => ?_⟩
  have hj2 : j < 3 := by
    rcases Nat.lt_or_ge j 3 with h3 | h3
    · exact h3
    · rw [List.getElem?_eq_none (by simpa using h3)] at hj; cases hj
  match i, hi, j, hj2, hj with
  | 0, _, 0, _, hj => cases hj; exact Leaf.int_ok hp
  | 0, _, 1, _, hj => cases hj; exact Leaf.int_ok hb
  | 0, _, 2, _, hj => cases hj; exact ⟨none, 0, 0, rfl⟩
theorem ptC_good (P B : Nat → Int) (k : Nat) (h : ∀ i, i < k → I64 (P i) ∧ I64 (B i)) : GoodC [.int .i64, .int .i64, .any] k (ptC P B k) := by
  induction k with
  | zero => exact GoodC.nil _
  | succ k ih => exact GoodC.snoc (ih fun i hi => h i (by omega)) (good_pt (h k (by omega)).1 (h k (by omega)).2)

theorem own_form {w : World} {base : Nat} {e : TypeId} {size n : Nat} {v : Value} {xs : List Value} (h : w.ownsRow base e size v n xs) : ∃ A c, v = .slice A n c := by
  rcases h.2 with ⟨h1, h2⟩ | ⟨g, cap, _, hv, _⟩
  · exact ⟨none, 0, by rw [h1, h2]⟩
  · exact ⟨_, _, hv⟩

theorem pts_own {w : World} {base c n : Nat} {A : Option Addr} {P B : Nat → Int} (h : w.ownsRow base 36 3 (.slice A n c) n (ptC P B n)) (hI : ∀ i, i < n → I64 (P i) ∧ I64 (B i)) (hn : n ≤ maxLen) : Pts w A n P B :=
  ⟨⟨_, rd_of_own (ls := [.int .i64, .int .i64, .any]) h (ptC_good P B n hI), fun i hi => ptC_at P B n i hi⟩, hn⟩

theorem infoPart : (Try.prog.info? 36).map (fun i => (i.zero, i.size, i.bytes)) = some (some (.agg #[.int .i64 0, .int .i64 0, .slice none 0 0]), 3, 40) := by kernel_rfl

theorem partCells : (Value.agg #[.int .i64 0, .int .i64 0, .slice none 0 0]).cells.size = 3 := by kernel_rfl

set_option maxRecDepth 100000 in
set_option maxHeartbeats 2000000 in
theorem servers_any (g N c : Nat) (z : Nat → Int) (w : World) (hN : N ≤ 100) (hg : g < w.heap.size) (hz : ∀ i, i < 2 * N → w.cell? ⟨g, i, none⟩ = some (.int .i64 (z i)) ∧ I64 (z i)) :
    Calls Try.prog 24 #[.slice (some ⟨g, 0, none⟩) (2 * N) c] w fun r w' =>
      (∃ v, r = .returned v ∧ w'.ownsRow w.heap.size 36 3 v N (ptC (fun k => z (2 * k + 1)) (fun k => z (2 * k)) N)) ∧ Below w.heap.size w w' := by
  have HZ := Lib.hid hz
  clear hz
  obtain ⟨P, hP⟩ : ∃ P : Nat → Int, P = fun k => z (2 * k + 1) := ⟨_, rfl⟩
  obtain ⟨B, hB⟩ : ∃ B : Nat → Int, B = fun k => z (2 * k) := ⟨_, rfl⟩
  rw [← hP, ← hB]
  have HP := Lib.hid (And.intro hP hB)
  clear hP hB
  obtain ⟨i0, hi0, hz0, hz1, hz2⟩ := info_parts infoPart
  obtain ⟨n, hn⟩ : ∃ n : Nat, n = 2 * N := ⟨_, rfl⟩
  rw [← hn]
  go_enter Try.func24, Try.ntmps24
  go_wp2_with fail
  go_loopw [3, 4] (fun v j wr => ∃ (k : Nat), k ≤ N ∧ j = .int .i64 ((2 * k : Nat) : Int) ∧ Hid (wr.ownsRow w.heap.size 36 3 v k (ptC P B k)) ∧ Hid (Below w.heap.size w wr)) (fun _ j _ => n - (intOf j).toNat)
  case atStart => exact ⟨0, by omega, rfl, World.ownsRow_nil _ _ _ _, Below.refl _ _⟩
  case round =>
    obtain ⟨k, hk, rfl, hown, hb⟩ := hrel
    by_cases hc : k < N
    · have z0 := HZ.out (2 * k) (by omega)
      have z1 := HZ.out (2 * k + 1) (by omega)
      rw [← hb.out.cell (p := ⟨g, _, none⟩) hg] at z0 z1
      obtain ⟨c0, b0, b0'⟩ := z0
      obtain ⟨c1, b1, b1'⟩ := z1
      have hB2 : B k = z (2 * k) := by rw [HP.out.2]
      have hP2 : P k = z (2 * k + 1) := by rw [HP.out.1]
      rw [← hB2] at c0
      rw [← hP2] at c1
      obtain ⟨pk, hpk⟩ : ∃ x, P k = x := ⟨_, rfl⟩
      obtain ⟨bk, hbk⟩ : ∃ x, B k = x := ⟨_, rfl⟩
      rw [hbk] at c0
      rw [hpk] at c1
      have HK := Lib.hid (And.intro hpk hbk)
      clear hB2 hP2 hpk hbk
      obtain ⟨m, hm⟩ : ∃ m : Nat, m = 2 * k := ⟨_, rfl⟩
      rw [← hm] at c0 c1 ⊢
      have hx0 : (0 : Int) ≤ (m : Int) := by omega
      have hx1 : (m : Int) + 1 < n := by omega
      have hx2 : (m : Int) < n := by omega
      have hx3 : (m : Int) + 1 ≤ 9223372036854775807 := by omega
      have h63 := Lib.hid (show k + 1 ≤ maxLen by unfold maxLen; omega)
      clear b0 b0' b1 b1'
      have HM := Lib.hid (And.intro hm hn)
      clear hm hn
      have hsz := hb.out.size
      go_wp2_with fail
      obtain ⟨vv, hvv⟩ : ∃ v, u3 = v := ⟨_, rfl⟩
      have H1 := hown.out
      have hne' : ∀ b, b < w.heap.size → some b ≠ u3.ownBlock := by
        intro b hb e
        rcases H1.2 with ⟨h, _⟩ | ⟨g, cap, cur, h, hg, _⟩
        · rw [h] at e; simp [Value.ownBlock] at e
        · rw [h] at e; simp [Value.ownBlock] at e; omega
      have hne := Lib.hid hne'
      clear hne' hvv
      have w1 : IntKind.i64.wrap ((m : Int) + 1) = (m : Int) + 1 := IntWalk.i64_in _ (by omega)
      have hx5 : (m : Int) + 2 ≤ 9223372036854775807 := by have := HM.out; omega
      have hx4 : (0 : Int) ≤ (m : Int) + 1 := by omega
      have ht : ((m : Int) + 1).toNat = m + 1 := by omega
      go_region_held3 (fun w' => w'.cell? ⟨g, m, none⟩ = some (.int .i64 bk) ∧ w'.cell? ⟨g, m + 1, none⟩ = some (.int .i64 pk)) (first | go_keep | (constructor <;> (rw [hgrow.cell_far _ (by simp; omega) (hne.out _ hg)]; first | assumption | exact hS.1 | exact hS.2 | simp_all)))
        ((refine step_append_lies _ (by rfl) _ _ _ (by rfl) w.heap.size 36 i0 _ 3 40 Try.underlying22 hi0 hz0 hz1 hz2 partCells (by omega) u3 k (ptC P B k) (by rfl) ((H1.alloc _).drew)
            ⟨wr.heap.size, 0, none⟩ 1 1 [.int .i64 pk, .int .i64 bk, .slice none 0 0] (by rfl) (by rfl) (World.news_of_block (cs := #[.int .i64 pk, .int .i64 bk, .slice none 0 0]) (t := 36) (fr := (0, 0)) (heap_alloc_new wr _)) (by simp [Value.oneCell'])
            (by omega) h63.out (by omega) (by simp; omega) (wr.heap.size + 1) (by simp) ?_; intro gg cap w1 hown1 hgrow hat hlt))
      clear c0 c1
      have w2 : IntKind.i64.wrap ((m : Int) + 2) = (m : Int) + 2 := IntWalk.i64_in _ (by omega)
      go_wp2
      have e3 : ptC P B k ++ [Value.int IntKind.i64 pk, Value.int IntKind.i64 bk, Value.slice none 0 0] = ptC P B (k + 1) := by rw [ptC, HK.out.1, HK.out.2]
      rw [e3] at hown1
      have hm := HM.out.1
      have hn := HM.out.2
      refine ⟨⟨k + 1, by omega, by go_num, hown1, ?_⟩, by simp [intOf]; omega⟩
      exact ((hb.out.alloc (by omega) _).drew).grown hgrow (by simp; omega) (fun i hi => by
        rcases Nat.lt_or_ge i w.heap.size with h | h
        · exact absurd hi.symm (hne.out i h)
        · exact h)
    · obtain rfl : k = N := by omega
      go_wp2_with fail
      go_ret
      exact ⟨⟨_, rfl, hown.out⟩, hb.out⟩
end Go.Proofs.Ytogdpkeojccpcaa
