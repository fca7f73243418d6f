/- What the program's Reach computes. Conditions: the routes' cells below the call's own; the ports lead to partitions 0 .. 3. -/
import Derived.Test.YtlaakcgipecldaaRtEnd
import Derived.Test.YtlaakcgipecldaaRtLaw
import Derived.WalkMore
import Derived.RangeFuncWrites
import Derived.Deep.Cut
namespace Go.Proofs.Ytlaakcgipecldaa
set_option linter.all false
open Go.RowKit

attribute [local go_sem] Oper.semAt_some

theorem it_stops (n : Nat) (Br Bf n₀ rp : Nat) (v : Int) (es : List (Int × Int)) (w : World) (hn : n₀ ≤ w.heap.size) (hBr : Blk w Br 53 #[.pointer (some ⟨rp, 0, none⟩)]) (hBf : Blk w Bf 3 #[.int .i64 v]) (hR : RtRd n₀ w rp es) (hlen : es.length ≤ 1000) :
    SeqStopsK Fence.wide n Try.prog 47 #[.pointer (some ⟨Br, 0, none⟩), .pointer (some ⟨Bf, 0, none⟩)] (fun x : Int => #[Value.int .i64 x]) (Kp2 n₀ Bf) (fun ys => ys = outs v es) (fun pre => pre <+: outs v es) (outs v es).length w :=
  fun l J Jx W hW hJ hJx hY h0 => it_in n l Br Bf n₀ rp v es J Jx hY (fun pre W1 h => hJ pre W1 _ none h ⟨rfl, rfl, rfl, Nat.le_refl _, fun _ _ _ => rfl⟩ (fun r e => by cases e)) W
    ((hW.block Br (Array.getElem?_eq_some_iff.1 hBr).1).trans hBr) ((hW.block Bf (Array.getElem?_eq_some_iff.1 hBf).1).trans hBf) (hR.below (hW.mono hn)) h0 hlen

theorem rnone_any (rp : Nat) (w : World) (h1 : w.cell? ⟨rp, 1, none⟩ = some (.bool true)) : Calls Try.prog 44 #[.pointer (some ⟨rp, 0, none⟩)] w fun e w' => e = .returned (.bool false) ∧ w' = w := by
  go_enter Try.func44, Try.ntmps44
  go_wp2
  go_ret
  simp

theorem row_form {w : World} {base : Nat} {e : TypeId} {size : Nat} {u : Value} {k : Nat} {xs : List Value} (h : w.ownsRow base e size u k xs) : ∃ A n c, u = .slice A n c := by
  rcases h.2 with ⟨rfl, _⟩ | ⟨g, cap, _, rfl, _⟩
  · exact ⟨_, _, _, rfl⟩
  · exact ⟨_, _, _, rfl⟩
theorem row_form2 {w : World} {base : Nat} {e : TypeId} {size : Nat} {u : Value} {k : Nat} {xs : List Value} (h : w.ownsRow base e size u k xs) : ∃ A c, u = .slice A k c := by
  rcases h.2 with ⟨rfl, rfl⟩ | ⟨g, cap, _, rfl, _⟩
  · exact ⟨_, _, rfl⟩
  · exact ⟨_, _, rfl⟩
theorem row_addr {w : World} {base : Nat} {e : TypeId} {size : Nat} {A : Option Addr} {c : Nat} {k : Nat} {xs : List Value} (h : w.ownsRow base e size (.slice A k c) k xs) (hk : 0 < k) : ∃ g, A = some ⟨g, 0, none⟩ := by
  rcases h.2 with ⟨_, h0⟩ | ⟨g, cap, _, he, _⟩
  · omega
  · cases he
    exact ⟨_, rfl⟩
theorem int_info : (Try.prog.info? 3).map (fun i => (i.zero, i.size, i.bytes)) = some (some (.int .i64 0), 1, 8) := by kernel_rfl

theorem kp2_t {n₀ Bf : Nat} {A B C : World} (h : Kp2 n₀ Bf A B) (k : Kp2 n₀ Bf B C) : Kp2 n₀ Bf A C := ⟨h.1.trans k.1, k.2.trans h.2⟩
theorem kp2_b {n₀ Bf : Nat} {w : World} (hn : n₀ ≤ w.heap.size) (hBf : Bf < w.heap.size) : ∀ (W : World) (l : Nat) (o o' : Obj), w.heap.size ≤ l → W.heap[l]? = some o → o.isCells = false → o.isWalk = false → Kp2 n₀ Bf W (W.putObj l o') :=
  fun W l o o' hl h _ _ => ⟨(Below.refl n₀ W).grown (grownBy_putObj' W l o') (by have := (Array.getElem?_eq_some_iff.1 h).1; omega) (fun k e => by cases e; omega), World.putObj_heap_other (by omega)⟩

theorem scan_ge (out : List Int) : ∀ xs : List Int, out.length ≤ (scan out xs).length := by
  intro xs
  induction xs generalizing out with
  | nil => exact Nat.le_refl _
  | cons x xs ih =>
    refine Nat.le_trans ?_ (ih (if x ∈ out then out else out ++ [x]))
    split <;> simp

structure RB (n₀ B4 B5 : Nat) (vA : Value) (LA : List Int) (vO : Value) (LO : List Int) (w : World) : Prop where
  x4 : Boxed w B4 51 vO
  x5 : Boxed w B5 51 vA
  ne45 : B4 ≠ B5
  l4 : n₀ ≤ B4
  l5 : n₀ ≤ B5
  rA : w.ownsRow n₀ 3 1 vA LA.length (LA.map (Value.int .i64))
  rO : w.ownsRow n₀ 3 1 vO LO.length (LO.map (Value.int .i64))
  neA : vA.ownBlock ≠ vO.ownBlock

theorem row_kept {w w' : World} {row : Option Nat} {base : Nat} {e : TypeId} {size : Nat} {u : Value} {k : Nat} {xs : List Value} (h : w.ownsRow base e size u k xs) (hg : w.grownBy w' row) (hr : ∀ r, row = some r → ∃ o : Obj, w.heap[r]? = some o ∧ o.isCells = false) : w'.ownsRow base e size u k xs := by
  refine h.kept hg ?_
  cases hu : u.ownBlock with
  | none => exact .inl rfl
  | some j =>
    refine .inr fun e' => ?_
    obtain ⟨o, ho, hc⟩ := hr j e'.symm
    rw [(own_cells h hu).2.2 o ho] at hc
    cases hc
theorem boxed_kept {w w' : World} {row : Option Nat} {B : Nat} {t : TypeId} {u : Value} (h : Boxed w B t u) (hg : w.grownBy w' row) (hr : ∀ r, row = some r → ∃ o : Obj, w.heap[r]? = some o ∧ o.isCells = false) : Boxed w' B t u :=
  h.kept hg fun e => by
    obtain ⟨o, ho, hc⟩ := hr B e.symm
    rw [show w.heap[B]? = _ from h] at ho
    cases ho
    cases hc
theorem RB.kept {n₀ B4 B5 : Nat} {vA : Value} {LA : List Int} {vO : Value} {LO : List Int} {w w' : World} {row : Option Nat} (h : RB n₀ B4 B5 vA LA vO LO w) (hg : w.grownBy w' row) (hr : ∀ r, row = some r → ∃ o : Obj, w.heap[r]? = some o ∧ o.isCells = false) : RB n₀ B4 B5 vA LA vO LO w' :=
  ⟨boxed_kept h.x4 hg hr, boxed_kept h.x5 hg hr, h.ne45, h.l4, h.l5, row_kept h.rA hg hr, row_kept h.rO hg hr, h.neA⟩
theorem RB.alloc {n₀ B4 B5 : Nat} {vA : Value} {LA : List Int} {vO : Value} {LO : List Int} {w : World} (h : RB n₀ B4 B5 vA LA vO LO w) (o : Obj) : RB n₀ B4 B5 vA LA vO LO (w.alloc o) := h.kept (World.grownBy_alloc w o none) fun r e => by cases e

set_option maxRecDepth 100000 in
set_option maxHeartbeats 4000000 in
theorem reach_any (rp : Nat) (v : Int) (es : List (Int × Int)) (w : World) (hR : RtRd w.heap.size w rp es) (hlen : es.length ≤ 1000) (hto : ∀ p ∈ es, 0 ≤ p.2 ∧ p.2 < 4) :
    Calls Try.prog 39 #[.pointer (some ⟨rp, 0, none⟩), .int .i64 v] w fun e w' => ∃ u k, e = .returned u ∧ (bfs es v k).length + 1 ≤ k ∧ w'.ownsRow w.heap.size 3 1 u (bfs es v k).length ((risen (bfs es v k)).map (Value.int .i64)) ∧ Below w.heap.size w w' := by
  have hlt := hR.lt
  have hm := hR.made
  refine (callsIn_wide (n := 5)).1 (callsIn_of_wp_marks Try.func39 rfl trivial (wpIn_wide.2 ?_) rfl)
  simp only [Try.ntmps39, List.size_toArray, List.length_cons, List.length_nil, Nat.reduceAdd, Nat.reduceSub, Array.replicate_succ, Array.replicate_zero, List.push_toArray, List.append_toArray, List.nil_append, List.cons_append]
  have hm1 : (w.alloc (.cells #[.slice none 0 0] 51)).cell? ⟨rp, 1, none⟩ = some (.bool true) := (World.cell?_alloc_some _ _ _ (by rw [hm]; rfl)).trans hm
  go_wp2_with (go_at_call 44; refine (rnone_any rp _ hm1).mono ?_; rintro e w' ⟨rfl, rfl⟩)
  refine wp_loop (fun a wr => ∃ (k : Nat) (u14 u15 u16 u17 u18 u19 u20 u21 u22 u23 u24 u25 : Value) (ds : List Deferred) (vA vO : Value), a = { tmps := #[.pointer (some ⟨rp, 0, none⟩), .int .i64 v, undef, undef, .pointer (some ⟨w.heap.size, 0, none⟩), .pointer (some ⟨w.heap.size + 1 + 1, 0, none⟩), .int .i64 (k : Int), undef, undef, undef, .pointer (some ⟨rp, 0, none⟩), .bool false, .int .i64 v, .slice (some ⟨w.heap.size + 1, 0, none⟩) 1 1, u14, u15, u16, u17, u18, u19, u20, u21, u22, u23, u24, u25, undef, undef, undef, undef, undef, undef, undef, undef, undef, undef, undef, undef, undef, undef, undef, undef, undef, undef, undef, undef, undef, undef], defers := ds } ∧ k ≤ (bfs es v k).length + 1 ∧
    RB w.heap.size w.heap.size (w.heap.size + 1 + 1) vA (v :: bfs es v k) vO (bfs es v k) wr ∧ Below w.heap.size w wr ∧ DS w.heap.size ds wr) (fun a _ => 6 - (intOf (a.tmps.getD 6 undef)).toNat) ?start ?round
  case start =>
    refine ⟨0, undef, undef, undef, undef, undef, undef, undef, undef, undef, undef, undef, undef, [], .slice (some ⟨w.heap.size + 1, 0, none⟩) 1 1, .slice none 0 0, rfl, by simp, ?_, ?_, DS.nil _ _⟩
    · have b4 := Boxed.new w 51 (.slice none 0 0)
      have b5 := Boxed.new ((w.alloc (.cells #[.slice none 0 0] 51)).alloc (.cells #[.int .i64 v] 3)) 51 (.slice (some ⟨w.heap.size + 1, 0, none⟩) 1 1)
      have bA := Boxed.new (w.alloc (.cells #[.slice none 0 0] 51)) 3 (.int .i64 v)
      simp only [World.size_alloc] at b5 bA
      refine ⟨(b4.alloc _).alloc _, b5, by omega, Nat.le_refl _, by omega, ⟨by simp [bfs], .inr ⟨w.heap.size + 1, 1, #[.int .i64 v], rfl, by omega, bA.alloc _, by simp [bfs], by decide, rfl, by simp [bfs]⟩⟩, by simp [bfs, World.ownsRow], by simp [Value.ownBlock]⟩
    · exact ((((Below.refl _ w).alloc (Nat.le_refl _) _).alloc (by simp) _).alloc (by simp; omega) _)
  case round =>
    rintro a wr ⟨k, u14, u15, u16, u17, u18, u19, u20, u21, u22, u23, u24, u25, ds, vA, vO, rfl, hk, hB, hW, hD⟩
    have hok := bfs_ok es v hto k
    have h4 := four_len _ hok
    obtain ⟨g, cap, rfl⟩ := ownsRow_succ hB.rA
    have c5 := hB.x5.cell
    have c4 := hB.x4.cell
    by_cases hlt2 : k < (bfs es v k).length + 1
    · have hd : decide (k < (bfs es v k).length + 1) = true := decide_eq_true hlt2
      obtain ⟨cur, hcur⟩ : ∃ c, (v :: bfs es v k)[k]? = some c := ⟨_, List.getElem?_eq_getElem (by simpa using hlt2)⟩
      have ck : wr.cell? ⟨g, k, none⟩ = some (.int .i64 cur) := by
        have := hB.rA.cellAt k (by rw [Nat.mul_one]; exact hlt2)
        rw [this, List.getElem?_map, hcur]
        rfl
      go_wp2
      go_step3
      go_wp2
      go_step3
      go_wp2_with (go_at_call 45; refine (steps_any rp cur wr).mono ?_; rintro e w' ⟨rfl, rfl⟩)
      have hnw : w.heap.size ≤ wr.heap.size := hW.size
      have hBr : Blk ((wr.alloc (.cells #[.pointer (some ⟨rp, 0, none⟩)] 53)).alloc (.cells #[.int .i64 cur] 3)) wr.heap.size 53 #[.pointer (some ⟨rp, 0, none⟩)] := (Boxed.new wr _ _).alloc _
      have hBf : Blk ((wr.alloc (.cells #[.pointer (some ⟨rp, 0, none⟩)] 53)).alloc (.cells #[.int .i64 cur] 3)) (wr.heap.size + 1) 3 #[.int .i64 cur] := by
        have := Boxed.new (wr.alloc (.cells #[.pointer (some ⟨rp, 0, none⟩)] 53)) 3 (.int .i64 cur)
        rw [World.size_alloc] at this
        exact this
      have hB1 := (hB.alloc (.cells #[.pointer (some ⟨rp, 0, none⟩)] 53)).alloc (.cells #[.int .i64 cur] 3)
      have hW1 : Below w.heap.size w ((wr.alloc (.cells #[.pointer (some ⟨rp, 0, none⟩)] 53)).alloc (.cells #[.int .i64 cur] 3)) := (hW.alloc hnw _).alloc (by simp; omega) _
      have hK1 : KeepsFrom 0 wr ((wr.alloc (.cells #[.pointer (some ⟨rp, 0, none⟩)] 53)).alloc (.cells #[.int .i64 cur] 3)) := ((KeepsOthers.alloc _ _).trans (KeepsOthers.alloc _ _)).from 0
      have hs1 : ((wr.alloc (.cells #[.pointer (some ⟨rp, 0, none⟩)] 53)).alloc (.cells #[.int .i64 cur] 3)).heap.size = wr.heap.size + 1 + 1 := by simp
      have ofA : (Value.slice (some ⟨g, 0, none⟩) ((bfs es v k).length + 1) cap).ownBlock ≠ some (wr.heap.size + 1) := fun e => by have := (own_cells hB.rA e).2.1; omega
      have ofO : vO.ownBlock ≠ some (wr.heap.size + 1) := fun e => by have := (own_cells hB.rO e).2.1; omega
      generalize ((wr.alloc (.cells #[.pointer (some ⟨rp, 0, none⟩)] 53)).alloc (.cells #[.int .i64 cur] 3)) = W1 at hBr hBf hB1 hW1 hK1 hs1 ⊢
      have hnext : bfs es v (k + 1) = scan (bfs es v k) (outs cur es) := by rw [bfs, hcur]
      generalize hBfd : wr.heap.size + 1 = Bf at hBf ofA ofO hs1 ⊢
      refine (wpIn_wide (n := 5)).1 ?_
      refine wpIn_rangeFunc_ownG (F := Fence.wide) (n := 5) rfl (by decide) (gf := 47) (lb := #[.pointer (some ⟨wr.heap.size, 0, none⟩), .pointer (some ⟨Bf, 0, none⟩)]) rfl trivial (enters_of Try.func47 (by kernel_rfl) rfl)
        (it_stops 4 wr.heap.size Bf w.heap.size rp cur es W1 hW1.size hBr hBf (hR.below hW1) hlen) kp2_t (kp2_b hW1.size (by omega)) (Below.refl _ _) (fun _ => rfl)
        (fun pre W => (∃ vA vO, RB w.heap.size w.heap.size (w.heap.size + 1 + 1) vA (v :: scan (bfs es v k) pre) vO (scan (bfs es v k) pre) W ∧ vA.ownBlock ≠ some Bf ∧ vO.ownBlock ≠ some Bf) ∧ Blk W Bf 3 #[.int .i64 cur] ∧ Below w.heap.size w W ∧ KeepsFrom 0 W1 W)
        (fun _ _ _ => False) ?hI (fun _ _ _ _ _ hs _ _ => hs) ⟨⟨_, _, hB1, ofA, ofO⟩, hBf, hW1, KeepsFrom.refl _ _⟩
        (fun x => { tmps := #[.pointer (some ⟨rp, 0, none⟩), .int .i64 v, undef, undef, .pointer (some ⟨w.heap.size, 0, none⟩), .pointer (some ⟨w.heap.size + 1 + 1, 0, none⟩), .int .i64 (k : Int), .int .i64 x, undef, undef, .pointer (some ⟨rp, 0, none⟩), .bool false, .int .i64 v, .slice (some ⟨w.heap.size + 1, 0, none⟩) 1 1, .int .i64 (k : Int), .slice (some ⟨g, 0, none⟩) ((bfs es v k).length + 1) cap, .int .i64 ((bfs es v k).length + 1), .bool true, u18, u19, .pointer (some ⟨rp, 0, none⟩), .slice (some ⟨g, 0, none⟩) ((bfs es v k).length + 1) cap, .int .i64 (k : Int), .pointer (some ⟨g, k, none⟩), .int .i64 cur, .func (.func 47) #[] #[.pointer (some ⟨wr.heap.size, 0, none⟩), .pointer (some ⟨Bf, 0, none⟩)], .int .i64 x, undef, undef, undef, undef, undef, undef, undef, undef, undef, undef, undef, undef, undef, undef, undef, undef, undef, undef, undef, undef, undef], defers := [] }) ?assign ?body ?done ?stop
      case hI =>
        rintro s X Y row ⟨⟨vA, vO, h1, h2, h3⟩, h4, h5, h6⟩ hg hr
        have hr2 : ∀ r, row = some r → ∃ o : Obj, X.heap[r]? = some o ∧ o.isCells = false := fun r e => (hr r e).2
        refine ⟨⟨vA, vO, h1.kept hg hr2, h2, h3⟩, boxed_kept (u := .int .i64 cur) h4 hg hr2, ownFrom_below (Nat.le_refl _) hW1.size s X Y row h5 hg hr, ownFrom_keepsFrom (Nat.le_refl _) s X Y row h6 hg hr⟩
      case assign =>
        intro l x W K hK
        gi_wp2
        exact hK
      case body =>
        rintro l pre x W ⟨⟨vA, vO, hB2, fA, fO⟩, hf2, hW2, hK2⟩ hlen2
        clear hBr hB hB1 hBf hD hW hK1
        have hsl := scan_len (bfs es v k) pre
        have hol : (outs cur es).length ≤ es.length := by
          unfold outs
          rw [List.length_map]
          exact List.length_filter_le _ _
        obtain ⟨gA, cA, rfl⟩ := ownsRow_succ hB2.rA
        obtain ⟨AO, cO, rfl⟩ := row_form2 hB2.rO
        have d4 := hB2.x4.cell
        have d5 := hB2.x5.cell
        gi_wp2
        gi_loopw [29] (fun p w2 => ∃ j : Nat, p = .int .i64 (j : Int) ∧ j ≤ (scan (bfs es v k) pre).length ∧ x ∉ (scan (bfs es v k) pre).take j ∧ w2 = W)
          (fun p w2 => (scan (bfs es v k) pre).length - (intOf p).toNat)
        case atStart => exact ⟨0, rfl, by omega, by simp, rfl⟩
        case round =>
          obtain ⟨j, rfl, hj, hnj, rfl⟩ := hrel
          by_cases hjl : j < (scan (bfs es v k) pre).length
          · have hdj : decide (j < (scan (bfs es v k) pre).length) = true := decide_eq_true hjl
            obtain ⟨y, hy⟩ : ∃ c, (scan (bfs es v k) pre)[j]? = some c := ⟨_, List.getElem?_eq_getElem hjl⟩
            obtain ⟨gO, rfl⟩ := row_addr hB2.rO (by omega)
            have cj : wr.cell? ⟨gO, j, none⟩ = some (.int .i64 y) := by
              have := hB2.rO.cellAt j (by rw [Nat.mul_one]; exact hjl)
              rw [this, List.getElem?_map, hy]
              rfl
            by_cases hyx : y = x
            · have hq : (y == x) = true := by simp [hyx]
              have hq2 : decide (y = x) = true := by simp [hyx]
              gi_wp2
              have hin : x ∈ scan (bfs es v k) pre := hyx ▸ List.mem_of_getElem? hy
              exact ⟨KeepsFrom.refl _ _, ⟨Below.refl _ _, rfl⟩, ⟨_, _, by rw [scan_snoc, if_pos hin]; exact hB2, fA, fO⟩, hf2, hW2, hK2⟩
            · have hq : (y == x) = false := by simp [hyx]
              have hq2 : decide (y = x) = false := by simp [hyx]
              gi_wp2
              refine ⟨⟨j + 1, rfl, by omega, fun hm => ?_, trivial⟩, by simp [intOf]; omega⟩
              rw [List.take_add_one, hy] at hm
              rcases List.mem_append.1 hm with hm | hm
              · exact hnj hm
              · exact hyx (by simp at hm; exact hm.symm)
          · have hdj : decide (j < (scan (bfs es v k) pre).length) = false := decide_eq_false hjl
            gi_wp2
            have hnin : x ∉ scan (bfs es v k) pre := by rw [show j = (scan (bfs es v k) pre).length by omega, List.take_length] at hnj; exact hnj
            have hS : RS w.heap.size wr w.heap.size (w.heap.size + 1 + 1) Bf x cur (.slice AO (scan (bfs es v k) pre).length cO) (.slice (some ⟨gA, 0, none⟩) ((scan (bfs es v k) pre).length + 1) cA) (.slice (some ⟨gA, 0, none⟩) ((scan (bfs es v k) pre).length + 1) cA) (v :: scan (bfs es v k) pre) (.slice AO (scan (bfs es v k) pre).length cO) (scan (bfs es v k) pre) [] wr := ⟨KeepsOthers.refl _, Below.refl _ _, hf2, by omega, hB2.x4, hB2.x5, hB2.ne45, hB2.l4, hB2.l5, hB2.rA, hB2.rO, hB2.neA, fA, fO, fun g hg => (by cases hg), hW2.size⟩
            replace hS := hS.drew
            refine region_round (by kernel_rfl) (by kernel_rfl) ?_
            change wpAny _ _ _ _ 10 (Array.replicate 10 false) _ _
            obtain ⟨i0, hi0, hz0, hz1, hz2⟩ := info_parts int_info
            have hb1 : (scan (bfs es v k) pre).length ≤ 1004 := by omega
            have hx0 : (1010 : Nat) ≤ maxLen := by decide
            have hmA : (v :: scan (bfs es v k) pre).length + 1 ≤ maxLen := by rw [List.length_cons]; omega
            have hmB : ((v :: scan (bfs es v k) pre).length + 1) * 8 ≤ 140737488355328 := by rw [List.length_cons]; omega
            have hmC : (scan (bfs es v k) pre).length + 1 ≤ maxLen := by omega
            have hmD : ((scan (bfs es v k) pre).length + 1) * 8 ≤ 140737488355328 := by omega
            clear hx0 hb1
            have hend : ∀ (vA' vO' : Value) (ts : List Nat) (a' : Act) (W' : World), RS w.heap.size wr w.heap.size (w.heap.size + 1 + 1) Bf x cur vO' vA' vA' (v :: scan (bfs es v k) pre ++ [x]) vO' (scan (bfs es v k) pre ++ [x]) ts W' → ownPostG W1.heap.size (Kp2 w.heap.size Bf) (fun pre W => (∃ vA vO, RB w.heap.size w.heap.size (w.heap.size + 1 + 1) vA (v :: scan (bfs es v k) pre) vO (scan (bfs es v k) pre) W ∧ vA.ownBlock ≠ some Bf ∧ vO.ownBlock ≠ some Bf) ∧ Blk W Bf 3 #[.int .i64 cur] ∧ Below w.heap.size w W ∧ KeepsFrom 0 W1 W) (fun _ _ _ => False) (pre ++ [x]) wr .normal a' W' := by
              rintro vA' vO' ts a' W' h
              exact ⟨h.keep.from _, ⟨h.below, h.bf.trans hf2.symm⟩, ⟨vA', vO', by rw [scan_snoc, if_neg hnin]; exact ⟨h.x4, h.x5, h.ne45, h.l4, h.l5, h.rA, h.rO, h.neA⟩, h.fA, h.fO⟩, h.bf, hW2.trans h.below, hK2.trans (h.keep.from 0)⟩
            clear hB2 d4 d5 hnin hnj hf2 hW2 hK2 hlen2 hdj ck c5 c4 hcur hd hlt2 h4 hok hm1 hm hlt hto hR hsl hol
            generalize wr.drew = W3 at hS ⊢
            refine wpAny_take (i := 1) (v := .int .i64 x) rfl (by kernel_rfl) (by kernel_rfl) (by kernel_rfl) (fun _ _ _ h => onlyN_pan h) (Or.inl ⟨by rfl, by intro w; go_simp⟩) ?_
            simp only [Act.put, List.setIfInBounds_toArray, List.set_cons_zero, List.set_cons_succ]
            refine wpAny_take (i := 5) (v := .int .i64 x) rfl (by kernel_rfl) (by kernel_rfl) (by kernel_rfl) (fun _ _ _ h => onlyN_pan h) (Or.inl ⟨by rfl, by intro w; go_simp⟩) ?_
            simp only [Act.put, List.setIfInBounds_toArray, List.set_cons_zero, List.set_cons_succ]
            refine wpAny_ready (rs := [0, 2, 4, 6]) (by kernel_rfl) (by simp) ?_
            refine AllReady.cons rfl (fun K hK => ?_) ?_
            · skip
              have c5 := hS.x5.cell
              go_simp
              refine hK _ _ ?_
              clear hK K
              clear c5
              refine wpAny_ready (rs := [2, 4, 6]) (by kernel_rfl) (by simp) ?_
              refine AllReady.cons rfl (fun K hK => ?_) ?_
              · skip
                go_simp
                refine hK _ _ ?_
                clear hK K
                replace hS := hS.alloc
                refine wpAny_ready (rs := [3, 4, 6]) (by kernel_rfl) (by simp) ?_
                refine AllReady.cons rfl (fun K hK => ?_) ?_
                · skip
                  refine step_append_lies _ rfl (.tmp 37) (.tmp 39) 51 rfl w.heap.size 3 i0 (.int .i64 0) 1 8 Try.underlying51 hi0 hz0 hz1 hz2 rfl (by decide) _ _ _ (by rfl) hS.rA ⟨_, 0, none⟩ 1 1 [.int .i64 x] (by rfl) rfl (World.news_of_block (hS.tt _ (by simp)).1) (by simp [Value.oneCell']) (by decide) hmA hmB hS.lt4 _ rfl ?_
                  intro gN3 capN3 wN3 hown hgrow hat hlt
                  replace hS := hS.appA hown hgrow hat
                  simp only [List.length_cons] at hS
                  clear hown hgrow hat hlt
                  try go_simp
                  refine hK _ _ ?_
                  clear hK K
                  refine wpAny_ready (rs := [4, 6]) (by kernel_rfl) (by simp) ?_
                  refine AllReady.cons rfl (fun K hK => ?_) ?_
                  · skip
                    have c4 := hS.x4.cell
                    go_simp
                    refine hK _ _ ?_
                    clear hK K
                    clear c4
                    refine wpAny_ready (rs := [6]) (by kernel_rfl) (by simp) ?_
                    refine AllReady.cons rfl (fun K hK => ?_) ?_
                    · skip
                      go_simp
                      refine hK _ _ ?_
                      clear hK K
                      replace hS := hS.alloc
                      refine wpAny_ready (rs := [7]) (by kernel_rfl) (by simp) ?_
                      refine AllReady.cons rfl (fun K hK => ?_) ?_
                      · skip
                        refine step_append_lies _ rfl (.tmp 41) (.tmp 43) 51 rfl w.heap.size 3 i0 (.int .i64 0) 1 8 Try.underlying51 hi0 hz0 hz1 hz2 rfl (by decide) _ _ _ (by rfl) hS.rO ⟨_, 0, none⟩ 1 1 [.int .i64 x] (by rfl) rfl (World.news_of_block (hS.tt _ (by simp)).1) (by simp [Value.oneCell']) (by decide) hmC hmD hS.lt4 _ rfl ?_
                        intro gN6 capN6 wN6 hown hgrow hat hlt
                        replace hS := hS.appO hown hgrow hat
                        clear hown hgrow hat hlt
                        try go_simp
                        refine hK _ _ ?_
                        clear hK K
                        refine wpAny_ready (rs := [8]) (by kernel_rfl) (by simp) ?_
                        refine AllReady.cons rfl (fun K hK => ?_) ?_
                        · skip
                          have c5 := hS.x5.cell
                          have f5 := hS.x5.frozen
                          go_simp
                          refine hK _ _ ?_
                          clear hK K
                          replace hS := hS.sto5 (.slice (some ⟨gN3, 0, none⟩) ((scan (bfs es v k) pre).length + 1 + 1) capN3)
                          clear c5 f5
                          generalize World.setCell _ _ _ = wS7 at hS ⊢
                          refine wpAny_ready (rs := [9]) (by kernel_rfl) (by simp) ?_
                          refine AllReady.cons rfl (fun K hK => ?_) ?_
                          · skip
                            have c4 := hS.x4.cell
                            have f4 := hS.x4.frozen
                            go_simp
                            refine hK _ _ ?_
                            clear hK K
                            replace hS := hS.sto4 (.slice (some ⟨gN6, 0, none⟩) ((scan (bfs es v k) pre).length + 1) capN6)
                            clear c4 f4
                            refine wpAny_done (by kernel_rfl) ?_ _
                            refine ⟨rfl, ?_⟩
                            gi_wp2
                            exact hend _ _ _ _ _ hS
                          exact AllReady.nil
                        exact AllReady.nil
                      exact AllReady.nil
                    exact AllReady.nil
                  refine AllReady.cons rfl (fun K hK => ?_) ?_
                  · skip
                    go_simp
                    refine hK _ _ ?_
                    clear hK K
                    replace hS := hS.alloc
                    refine wpAny_ready (rs := [4]) (by kernel_rfl) (by simp) ?_
                    refine AllReady.cons rfl (fun K hK => ?_) ?_
                    · skip
                      have c4 := hS.x4.cell
                      go_simp
                      refine hK _ _ ?_
                      clear hK K
                      clear c4
                      refine wpAny_ready (rs := [7]) (by kernel_rfl) (by simp) ?_
                      refine AllReady.cons rfl (fun K hK => ?_) ?_
                      · skip
                        refine step_append_lies _ rfl (.tmp 41) (.tmp 43) 51 rfl w.heap.size 3 i0 (.int .i64 0) 1 8 Try.underlying51 hi0 hz0 hz1 hz2 rfl (by decide) _ _ _ (by rfl) hS.rO ⟨_, 0, none⟩ 1 1 [.int .i64 x] (by rfl) rfl (World.news_of_block (hS.tt _ (by simp)).1) (by simp [Value.oneCell']) (by decide) hmC hmD hS.lt4 _ rfl ?_
                        intro gN6 capN6 wN6 hown hgrow hat hlt
                        replace hS := hS.appO hown hgrow hat
                        clear hown hgrow hat hlt
                        try go_simp
                        refine hK _ _ ?_
                        clear hK K
                        refine wpAny_ready (rs := [8]) (by kernel_rfl) (by simp) ?_
                        refine AllReady.cons rfl (fun K hK => ?_) ?_
                        · skip
                          have c5 := hS.x5.cell
                          have f5 := hS.x5.frozen
                          go_simp
                          refine hK _ _ ?_
                          clear hK K
                          replace hS := hS.sto5 (.slice (some ⟨gN3, 0, none⟩) ((scan (bfs es v k) pre).length + 1 + 1) capN3)
                          clear c5 f5
                          generalize World.setCell _ _ _ = wS7 at hS ⊢
                          refine wpAny_ready (rs := [9]) (by kernel_rfl) (by simp) ?_
                          refine AllReady.cons rfl (fun K hK => ?_) ?_
                          · skip
                            have c4 := hS.x4.cell
                            have f4 := hS.x4.frozen
                            go_simp
                            refine hK _ _ ?_
                            clear hK K
                            replace hS := hS.sto4 (.slice (some ⟨gN6, 0, none⟩) ((scan (bfs es v k) pre).length + 1) capN6)
                            clear c4 f4
                            refine wpAny_done (by kernel_rfl) ?_ _
                            refine ⟨rfl, ?_⟩
                            gi_wp2
                            exact hend _ _ _ _ _ hS
                          exact AllReady.nil
                        exact AllReady.nil
                      exact AllReady.nil
                    exact AllReady.nil
                  exact AllReady.nil
                refine AllReady.cons rfl (fun K hK => ?_) ?_
                · skip
                  have c4 := hS.x4.cell
                  go_simp
                  refine hK _ _ ?_
                  clear hK K
                  clear c4
                  refine wpAny_ready (rs := [3, 6]) (by kernel_rfl) (by simp) ?_
                  refine AllReady.cons rfl (fun K hK => ?_) ?_
                  · skip
                    refine step_append_lies _ rfl (.tmp 37) (.tmp 39) 51 rfl w.heap.size 3 i0 (.int .i64 0) 1 8 Try.underlying51 hi0 hz0 hz1 hz2 rfl (by decide) _ _ _ (by rfl) hS.rA ⟨_, 0, none⟩ 1 1 [.int .i64 x] (by rfl) rfl (World.news_of_block (hS.tt _ (by simp)).1) (by simp [Value.oneCell']) (by decide) hmA hmB hS.lt4 _ rfl ?_
                    intro gN4 capN4 wN4 hown hgrow hat hlt
                    replace hS := hS.appA hown hgrow hat
                    simp only [List.length_cons] at hS
                    clear hown hgrow hat hlt
                    try go_simp
                    refine hK _ _ ?_
                    clear hK K
                    refine wpAny_ready (rs := [6]) (by kernel_rfl) (by simp) ?_
                    refine AllReady.cons rfl (fun K hK => ?_) ?_
                    · skip
                      go_simp
                      refine hK _ _ ?_
                      clear hK K
                      replace hS := hS.alloc
                      refine wpAny_ready (rs := [7]) (by kernel_rfl) (by simp) ?_
                      refine AllReady.cons rfl (fun K hK => ?_) ?_
                      · skip
                        refine step_append_lies _ rfl (.tmp 41) (.tmp 43) 51 rfl w.heap.size 3 i0 (.int .i64 0) 1 8 Try.underlying51 hi0 hz0 hz1 hz2 rfl (by decide) _ _ _ (by rfl) hS.rO ⟨_, 0, none⟩ 1 1 [.int .i64 x] (by rfl) rfl (World.news_of_block (hS.tt _ (by simp)).1) (by simp [Value.oneCell']) (by decide) hmC hmD hS.lt4 _ rfl ?_
                        intro gN6 capN6 wN6 hown hgrow hat hlt
                        replace hS := hS.appO hown hgrow hat
                        clear hown hgrow hat hlt
                        try go_simp
                        refine hK _ _ ?_
                        clear hK K
                        refine wpAny_ready (rs := [8]) (by kernel_rfl) (by simp) ?_
                        refine AllReady.cons rfl (fun K hK => ?_) ?_
                        · skip
                          have c5 := hS.x5.cell
                          have f5 := hS.x5.frozen
                          go_simp
                          refine hK _ _ ?_
                          clear hK K
                          replace hS := hS.sto5 (.slice (some ⟨gN4, 0, none⟩) ((scan (bfs es v k) pre).length + 1 + 1) capN4)
                          clear c5 f5
                          generalize World.setCell _ _ _ = wS7 at hS ⊢
                          refine wpAny_ready (rs := [9]) (by kernel_rfl) (by simp) ?_
                          refine AllReady.cons rfl (fun K hK => ?_) ?_
                          · skip
                            have c4 := hS.x4.cell
                            have f4 := hS.x4.frozen
                            go_simp
                            refine hK _ _ ?_
                            clear hK K
                            replace hS := hS.sto4 (.slice (some ⟨gN6, 0, none⟩) ((scan (bfs es v k) pre).length + 1) capN6)
                            clear c4 f4
                            refine wpAny_done (by kernel_rfl) ?_ _
                            refine ⟨rfl, ?_⟩
                            gi_wp2
                            exact hend _ _ _ _ _ hS
                          exact AllReady.nil
                        exact AllReady.nil
                      exact AllReady.nil
                    exact AllReady.nil
                  refine AllReady.cons rfl (fun K hK => ?_) ?_
                  · skip
                    go_simp
                    refine hK _ _ ?_
                    clear hK K
                    replace hS := hS.alloc
                    refine wpAny_ready (rs := [3]) (by kernel_rfl) (by simp) ?_
                    refine AllReady.cons rfl (fun K hK => ?_) ?_
                    · skip
                      refine step_append_lies _ rfl (.tmp 37) (.tmp 39) 51 rfl w.heap.size 3 i0 (.int .i64 0) 1 8 Try.underlying51 hi0 hz0 hz1 hz2 rfl (by decide) _ _ _ (by rfl) hS.rA ⟨_, 0, none⟩ 1 1 [.int .i64 x] (by rfl) rfl (World.news_of_block (hS.tt _ (by simp)).1) (by simp [Value.oneCell']) (by decide) hmA hmB hS.lt4 _ rfl ?_
                      intro gN5 capN5 wN5 hown hgrow hat hlt
                      replace hS := hS.appA hown hgrow hat
                      simp only [List.length_cons] at hS
                      clear hown hgrow hat hlt
                      try go_simp
                      refine hK _ _ ?_
                      clear hK K
                      refine wpAny_ready (rs := [7]) (by kernel_rfl) (by simp) ?_
                      refine AllReady.cons rfl (fun K hK => ?_) ?_
                      · skip
                        refine step_append_lies _ rfl (.tmp 41) (.tmp 43) 51 rfl w.heap.size 3 i0 (.int .i64 0) 1 8 Try.underlying51 hi0 hz0 hz1 hz2 rfl (by decide) _ _ _ (by rfl) hS.rO ⟨_, 0, none⟩ 1 1 [.int .i64 x] (by rfl) rfl (World.news_of_block (hS.tt _ (by simp)).1) (by simp [Value.oneCell']) (by decide) hmC hmD hS.lt4 _ rfl ?_
                        intro gN6 capN6 wN6 hown hgrow hat hlt
                        replace hS := hS.appO hown hgrow hat
                        clear hown hgrow hat hlt
                        try go_simp
                        refine hK _ _ ?_
                        clear hK K
                        refine wpAny_ready (rs := [8]) (by kernel_rfl) (by simp) ?_
                        refine AllReady.cons rfl (fun K hK => ?_) ?_
                        · skip
                          have c5 := hS.x5.cell
                          have f5 := hS.x5.frozen
                          go_simp
                          refine hK _ _ ?_
                          clear hK K
                          replace hS := hS.sto5 (.slice (some ⟨gN5, 0, none⟩) ((scan (bfs es v k) pre).length + 1 + 1) capN5)
                          clear c5 f5
                          generalize World.setCell _ _ _ = wS7 at hS ⊢
                          refine wpAny_ready (rs := [9]) (by kernel_rfl) (by simp) ?_
                          refine AllReady.cons rfl (fun K hK => ?_) ?_
                          · skip
                            have c4 := hS.x4.cell
                            have f4 := hS.x4.frozen
                            go_simp
                            refine hK _ _ ?_
                            clear hK K
                            replace hS := hS.sto4 (.slice (some ⟨gN6, 0, none⟩) ((scan (bfs es v k) pre).length + 1) capN6)
                            clear c4 f4
                            refine wpAny_done (by kernel_rfl) ?_ _
                            refine ⟨rfl, ?_⟩
                            gi_wp2
                            exact hend _ _ _ _ _ hS
                          exact AllReady.nil
                        exact AllReady.nil
                      exact AllReady.nil
                    exact AllReady.nil
                  exact AllReady.nil
                refine AllReady.cons rfl (fun K hK => ?_) ?_
                · skip
                  go_simp
                  refine hK _ _ ?_
                  clear hK K
                  replace hS := hS.alloc
                  refine wpAny_ready (rs := [3, 4]) (by kernel_rfl) (by simp) ?_
                  refine AllReady.cons rfl (fun K hK => ?_) ?_
                  · skip
                    refine step_append_lies _ rfl (.tmp 37) (.tmp 39) 51 rfl w.heap.size 3 i0 (.int .i64 0) 1 8 Try.underlying51 hi0 hz0 hz1 hz2 rfl (by decide) _ _ _ (by rfl) hS.rA ⟨_, 0, none⟩ 1 1 [.int .i64 x] (by rfl) rfl (World.news_of_block (hS.tt _ (by simp)).1) (by simp [Value.oneCell']) (by decide) hmA hmB hS.lt4 _ rfl ?_
                    intro gN4 capN4 wN4 hown hgrow hat hlt
                    replace hS := hS.appA hown hgrow hat
                    simp only [List.length_cons] at hS
                    clear hown hgrow hat hlt
                    try go_simp
                    refine hK _ _ ?_
                    clear hK K
                    refine wpAny_ready (rs := [4]) (by kernel_rfl) (by simp) ?_
                    refine AllReady.cons rfl (fun K hK => ?_) ?_
                    · skip
                      have c4 := hS.x4.cell
                      go_simp
                      refine hK _ _ ?_
                      clear hK K
                      clear c4
                      refine wpAny_ready (rs := [7]) (by kernel_rfl) (by simp) ?_
                      refine AllReady.cons rfl (fun K hK => ?_) ?_
                      · skip
                        refine step_append_lies _ rfl (.tmp 41) (.tmp 43) 51 rfl w.heap.size 3 i0 (.int .i64 0) 1 8 Try.underlying51 hi0 hz0 hz1 hz2 rfl (by decide) _ _ _ (by rfl) hS.rO ⟨_, 0, none⟩ 1 1 [.int .i64 x] (by rfl) rfl (World.news_of_block (hS.tt _ (by simp)).1) (by simp [Value.oneCell']) (by decide) hmC hmD hS.lt4 _ rfl ?_
                        intro gN6 capN6 wN6 hown hgrow hat hlt
                        replace hS := hS.appO hown hgrow hat
                        clear hown hgrow hat hlt
                        try go_simp
                        refine hK _ _ ?_
                        clear hK K
                        refine wpAny_ready (rs := [8]) (by kernel_rfl) (by simp) ?_
                        refine AllReady.cons rfl (fun K hK => ?_) ?_
                        · skip
                          have c5 := hS.x5.cell
                          have f5 := hS.x5.frozen
                          go_simp
                          refine hK _ _ ?_
                          clear hK K
                          replace hS := hS.sto5 (.slice (some ⟨gN4, 0, none⟩) ((scan (bfs es v k) pre).length + 1 + 1) capN4)
                          clear c5 f5
                          generalize World.setCell _ _ _ = wS7 at hS ⊢
                          refine wpAny_ready (rs := [9]) (by kernel_rfl) (by simp) ?_
                          refine AllReady.cons rfl (fun K hK => ?_) ?_
                          · skip
                            have c4 := hS.x4.cell
                            have f4 := hS.x4.frozen
                            go_simp
                            refine hK _ _ ?_
                            clear hK K
                            replace hS := hS.sto4 (.slice (some ⟨gN6, 0, none⟩) ((scan (bfs es v k) pre).length + 1) capN6)
                            clear c4 f4
                            refine wpAny_done (by kernel_rfl) ?_ _
                            refine ⟨rfl, ?_⟩
                            gi_wp2
                            exact hend _ _ _ _ _ hS
                          exact AllReady.nil
                        exact AllReady.nil
                      exact AllReady.nil
                    exact AllReady.nil
                  refine AllReady.cons rfl (fun K hK => ?_) ?_
                  · skip
                    have c4 := hS.x4.cell
                    go_simp
                    refine hK _ _ ?_
                    clear hK K
                    clear c4
                    refine wpAny_ready (rs := [3]) (by kernel_rfl) (by simp) ?_
                    refine AllReady.cons rfl (fun K hK => ?_) ?_
                    · skip
                      refine step_append_lies _ rfl (.tmp 37) (.tmp 39) 51 rfl w.heap.size 3 i0 (.int .i64 0) 1 8 Try.underlying51 hi0 hz0 hz1 hz2 rfl (by decide) _ _ _ (by rfl) hS.rA ⟨_, 0, none⟩ 1 1 [.int .i64 x] (by rfl) rfl (World.news_of_block (hS.tt _ (by simp)).1) (by simp [Value.oneCell']) (by decide) hmA hmB hS.lt4 _ rfl ?_
                      intro gN5 capN5 wN5 hown hgrow hat hlt
                      replace hS := hS.appA hown hgrow hat
                      simp only [List.length_cons] at hS
                      clear hown hgrow hat hlt
                      try go_simp
                      refine hK _ _ ?_
                      clear hK K
                      refine wpAny_ready (rs := [7]) (by kernel_rfl) (by simp) ?_
                      refine AllReady.cons rfl (fun K hK => ?_) ?_
                      · skip
                        refine step_append_lies _ rfl (.tmp 41) (.tmp 43) 51 rfl w.heap.size 3 i0 (.int .i64 0) 1 8 Try.underlying51 hi0 hz0 hz1 hz2 rfl (by decide) _ _ _ (by rfl) hS.rO ⟨_, 0, none⟩ 1 1 [.int .i64 x] (by rfl) rfl (World.news_of_block (hS.tt _ (by simp)).1) (by simp [Value.oneCell']) (by decide) hmC hmD hS.lt4 _ rfl ?_
                        intro gN6 capN6 wN6 hown hgrow hat hlt
                        replace hS := hS.appO hown hgrow hat
                        clear hown hgrow hat hlt
                        try go_simp
                        refine hK _ _ ?_
                        clear hK K
                        refine wpAny_ready (rs := [8]) (by kernel_rfl) (by simp) ?_
                        refine AllReady.cons rfl (fun K hK => ?_) ?_
                        · skip
                          have c5 := hS.x5.cell
                          have f5 := hS.x5.frozen
                          go_simp
                          refine hK _ _ ?_
                          clear hK K
                          replace hS := hS.sto5 (.slice (some ⟨gN5, 0, none⟩) ((scan (bfs es v k) pre).length + 1 + 1) capN5)
                          clear c5 f5
                          generalize World.setCell _ _ _ = wS7 at hS ⊢
                          refine wpAny_ready (rs := [9]) (by kernel_rfl) (by simp) ?_
                          refine AllReady.cons rfl (fun K hK => ?_) ?_
                          · skip
                            have c4 := hS.x4.cell
                            have f4 := hS.x4.frozen
                            go_simp
                            refine hK _ _ ?_
                            clear hK K
                            replace hS := hS.sto4 (.slice (some ⟨gN6, 0, none⟩) ((scan (bfs es v k) pre).length + 1) capN6)
                            clear c4 f4
                            refine wpAny_done (by kernel_rfl) ?_ _
                            refine ⟨rfl, ?_⟩
                            gi_wp2
                            exact hend _ _ _ _ _ hS
                          exact AllReady.nil
                        exact AllReady.nil
                      exact AllReady.nil
                    exact AllReady.nil
                  exact AllReady.nil
                exact AllReady.nil
              refine AllReady.cons rfl (fun K hK => ?_) ?_
              · skip
                have c4 := hS.x4.cell
                go_simp
                refine hK _ _ ?_
                clear hK K
                clear c4
                refine wpAny_ready (rs := [2, 6]) (by kernel_rfl) (by simp) ?_
                refine AllReady.cons rfl (fun K hK => ?_) ?_
                · skip
                  go_simp
                  refine hK _ _ ?_
                  clear hK K
                  replace hS := hS.alloc
                  refine wpAny_ready (rs := [3, 6]) (by kernel_rfl) (by simp) ?_
                  refine AllReady.cons rfl (fun K hK => ?_) ?_
                  · skip
                    refine step_append_lies _ rfl (.tmp 37) (.tmp 39) 51 rfl w.heap.size 3 i0 (.int .i64 0) 1 8 Try.underlying51 hi0 hz0 hz1 hz2 rfl (by decide) _ _ _ (by rfl) hS.rA ⟨_, 0, none⟩ 1 1 [.int .i64 x] (by rfl) rfl (World.news_of_block (hS.tt _ (by simp)).1) (by simp [Value.oneCell']) (by decide) hmA hmB hS.lt4 _ rfl ?_
                    intro gN4 capN4 wN4 hown hgrow hat hlt
                    replace hS := hS.appA hown hgrow hat
                    simp only [List.length_cons] at hS
                    clear hown hgrow hat hlt
                    try go_simp
                    refine hK _ _ ?_
                    clear hK K
                    refine wpAny_ready (rs := [6]) (by kernel_rfl) (by simp) ?_
                    refine AllReady.cons rfl (fun K hK => ?_) ?_
                    · skip
                      go_simp
                      refine hK _ _ ?_
                      clear hK K
                      replace hS := hS.alloc
                      refine wpAny_ready (rs := [7]) (by kernel_rfl) (by simp) ?_
                      refine AllReady.cons rfl (fun K hK => ?_) ?_
                      · skip
                        refine step_append_lies _ rfl (.tmp 41) (.tmp 43) 51 rfl w.heap.size 3 i0 (.int .i64 0) 1 8 Try.underlying51 hi0 hz0 hz1 hz2 rfl (by decide) _ _ _ (by rfl) hS.rO ⟨_, 0, none⟩ 1 1 [.int .i64 x] (by rfl) rfl (World.news_of_block (hS.tt _ (by simp)).1) (by simp [Value.oneCell']) (by decide) hmC hmD hS.lt4 _ rfl ?_
                        intro gN6 capN6 wN6 hown hgrow hat hlt
                        replace hS := hS.appO hown hgrow hat
                        clear hown hgrow hat hlt
                        try go_simp
                        refine hK _ _ ?_
                        clear hK K
                        refine wpAny_ready (rs := [8]) (by kernel_rfl) (by simp) ?_
                        refine AllReady.cons rfl (fun K hK => ?_) ?_
                        · skip
                          have c5 := hS.x5.cell
                          have f5 := hS.x5.frozen
                          go_simp
                          refine hK _ _ ?_
                          clear hK K
                          replace hS := hS.sto5 (.slice (some ⟨gN4, 0, none⟩) ((scan (bfs es v k) pre).length + 1 + 1) capN4)
                          clear c5 f5
                          generalize World.setCell _ _ _ = wS7 at hS ⊢
                          refine wpAny_ready (rs := [9]) (by kernel_rfl) (by simp) ?_
                          refine AllReady.cons rfl (fun K hK => ?_) ?_
                          · skip
                            have c4 := hS.x4.cell
                            have f4 := hS.x4.frozen
                            go_simp
                            refine hK _ _ ?_
                            clear hK K
                            replace hS := hS.sto4 (.slice (some ⟨gN6, 0, none⟩) ((scan (bfs es v k) pre).length + 1) capN6)
                            clear c4 f4
                            refine wpAny_done (by kernel_rfl) ?_ _
                            refine ⟨rfl, ?_⟩
                            gi_wp2
                            exact hend _ _ _ _ _ hS
                          exact AllReady.nil
                        exact AllReady.nil
                      exact AllReady.nil
                    exact AllReady.nil
                  refine AllReady.cons rfl (fun K hK => ?_) ?_
                  · skip
                    go_simp
                    refine hK _ _ ?_
                    clear hK K
                    replace hS := hS.alloc
                    refine wpAny_ready (rs := [3]) (by kernel_rfl) (by simp) ?_
                    refine AllReady.cons rfl (fun K hK => ?_) ?_
                    · skip
                      refine step_append_lies _ rfl (.tmp 37) (.tmp 39) 51 rfl w.heap.size 3 i0 (.int .i64 0) 1 8 Try.underlying51 hi0 hz0 hz1 hz2 rfl (by decide) _ _ _ (by rfl) hS.rA ⟨_, 0, none⟩ 1 1 [.int .i64 x] (by rfl) rfl (World.news_of_block (hS.tt _ (by simp)).1) (by simp [Value.oneCell']) (by decide) hmA hmB hS.lt4 _ rfl ?_
                      intro gN5 capN5 wN5 hown hgrow hat hlt
                      replace hS := hS.appA hown hgrow hat
                      simp only [List.length_cons] at hS
                      clear hown hgrow hat hlt
                      try go_simp
                      refine hK _ _ ?_
                      clear hK K
                      refine wpAny_ready (rs := [7]) (by kernel_rfl) (by simp) ?_
                      refine AllReady.cons rfl (fun K hK => ?_) ?_
                      · skip
                        refine step_append_lies _ rfl (.tmp 41) (.tmp 43) 51 rfl w.heap.size 3 i0 (.int .i64 0) 1 8 Try.underlying51 hi0 hz0 hz1 hz2 rfl (by decide) _ _ _ (by rfl) hS.rO ⟨_, 0, none⟩ 1 1 [.int .i64 x] (by rfl) rfl (World.news_of_block (hS.tt _ (by simp)).1) (by simp [Value.oneCell']) (by decide) hmC hmD hS.lt4 _ rfl ?_
                        intro gN6 capN6 wN6 hown hgrow hat hlt
                        replace hS := hS.appO hown hgrow hat
                        clear hown hgrow hat hlt
                        try go_simp
                        refine hK _ _ ?_
                        clear hK K
                        refine wpAny_ready (rs := [8]) (by kernel_rfl) (by simp) ?_
                        refine AllReady.cons rfl (fun K hK => ?_) ?_
                        · skip
                          have c5 := hS.x5.cell
                          have f5 := hS.x5.frozen
                          go_simp
                          refine hK _ _ ?_
                          clear hK K
                          replace hS := hS.sto5 (.slice (some ⟨gN5, 0, none⟩) ((scan (bfs es v k) pre).length + 1 + 1) capN5)
                          clear c5 f5
                          generalize World.setCell _ _ _ = wS7 at hS ⊢
                          refine wpAny_ready (rs := [9]) (by kernel_rfl) (by simp) ?_
                          refine AllReady.cons rfl (fun K hK => ?_) ?_
                          · skip
                            have c4 := hS.x4.cell
                            have f4 := hS.x4.frozen
                            go_simp
                            refine hK _ _ ?_
                            clear hK K
                            replace hS := hS.sto4 (.slice (some ⟨gN6, 0, none⟩) ((scan (bfs es v k) pre).length + 1) capN6)
                            clear c4 f4
                            refine wpAny_done (by kernel_rfl) ?_ _
                            refine ⟨rfl, ?_⟩
                            gi_wp2
                            exact hend _ _ _ _ _ hS
                          exact AllReady.nil
                        exact AllReady.nil
                      exact AllReady.nil
                    exact AllReady.nil
                  exact AllReady.nil
                refine AllReady.cons rfl (fun K hK => ?_) ?_
                · skip
                  go_simp
                  refine hK _ _ ?_
                  clear hK K
                  replace hS := hS.alloc
                  refine wpAny_ready (rs := [2]) (by kernel_rfl) (by simp) ?_
                  refine AllReady.cons rfl (fun K hK => ?_) ?_
                  · skip
                    go_simp
                    refine hK _ _ ?_
                    clear hK K
                    replace hS := hS.alloc
                    refine wpAny_ready (rs := [3]) (by kernel_rfl) (by simp) ?_
                    refine AllReady.cons rfl (fun K hK => ?_) ?_
                    · skip
                      refine step_append_lies _ rfl (.tmp 37) (.tmp 39) 51 rfl w.heap.size 3 i0 (.int .i64 0) 1 8 Try.underlying51 hi0 hz0 hz1 hz2 rfl (by decide) _ _ _ (by rfl) hS.rA ⟨_, 0, none⟩ 1 1 [.int .i64 x] (by rfl) rfl (World.news_of_block (hS.tt _ (by simp)).1) (by simp [Value.oneCell']) (by decide) hmA hmB hS.lt4 _ rfl ?_
                      intro gN5 capN5 wN5 hown hgrow hat hlt
                      replace hS := hS.appA hown hgrow hat
                      simp only [List.length_cons] at hS
                      clear hown hgrow hat hlt
                      try go_simp
                      refine hK _ _ ?_
                      clear hK K
                      refine wpAny_ready (rs := [7]) (by kernel_rfl) (by simp) ?_
                      refine AllReady.cons rfl (fun K hK => ?_) ?_
                      · skip
                        refine step_append_lies _ rfl (.tmp 41) (.tmp 43) 51 rfl w.heap.size 3 i0 (.int .i64 0) 1 8 Try.underlying51 hi0 hz0 hz1 hz2 rfl (by decide) _ _ _ (by rfl) hS.rO ⟨_, 0, none⟩ 1 1 [.int .i64 x] (by rfl) rfl (World.news_of_block (hS.tt _ (by simp)).1) (by simp [Value.oneCell']) (by decide) hmC hmD hS.lt4 _ rfl ?_
                        intro gN6 capN6 wN6 hown hgrow hat hlt
                        replace hS := hS.appO hown hgrow hat
                        clear hown hgrow hat hlt
                        try go_simp
                        refine hK _ _ ?_
                        clear hK K
                        refine wpAny_ready (rs := [8]) (by kernel_rfl) (by simp) ?_
                        refine AllReady.cons rfl (fun K hK => ?_) ?_
                        · skip
                          have c5 := hS.x5.cell
                          have f5 := hS.x5.frozen
                          go_simp
                          refine hK _ _ ?_
                          clear hK K
                          replace hS := hS.sto5 (.slice (some ⟨gN5, 0, none⟩) ((scan (bfs es v k) pre).length + 1 + 1) capN5)
                          clear c5 f5
                          generalize World.setCell _ _ _ = wS7 at hS ⊢
                          refine wpAny_ready (rs := [9]) (by kernel_rfl) (by simp) ?_
                          refine AllReady.cons rfl (fun K hK => ?_) ?_
                          · skip
                            have c4 := hS.x4.cell
                            have f4 := hS.x4.frozen
                            go_simp
                            refine hK _ _ ?_
                            clear hK K
                            replace hS := hS.sto4 (.slice (some ⟨gN6, 0, none⟩) ((scan (bfs es v k) pre).length + 1) capN6)
                            clear c4 f4
                            refine wpAny_done (by kernel_rfl) ?_ _
                            refine ⟨rfl, ?_⟩
                            gi_wp2
                            exact hend _ _ _ _ _ hS
                          exact AllReady.nil
                        exact AllReady.nil
                      exact AllReady.nil
                    exact AllReady.nil
                  exact AllReady.nil
                exact AllReady.nil
              refine AllReady.cons rfl (fun K hK => ?_) ?_
              · skip
                go_simp
                refine hK _ _ ?_
                clear hK K
                replace hS := hS.alloc
                refine wpAny_ready (rs := [2, 4]) (by kernel_rfl) (by simp) ?_
                refine AllReady.cons rfl (fun K hK => ?_) ?_
                · skip
                  go_simp
                  refine hK _ _ ?_
                  clear hK K
                  replace hS := hS.alloc
                  refine wpAny_ready (rs := [3, 4]) (by kernel_rfl) (by simp) ?_
                  refine AllReady.cons rfl (fun K hK => ?_) ?_
                  · skip
                    refine step_append_lies _ rfl (.tmp 37) (.tmp 39) 51 rfl w.heap.size 3 i0 (.int .i64 0) 1 8 Try.underlying51 hi0 hz0 hz1 hz2 rfl (by decide) _ _ _ (by rfl) hS.rA ⟨_, 0, none⟩ 1 1 [.int .i64 x] (by rfl) rfl (World.news_of_block (hS.tt _ (by simp)).1) (by simp [Value.oneCell']) (by decide) hmA hmB hS.lt4 _ rfl ?_
                    intro gN4 capN4 wN4 hown hgrow hat hlt
                    replace hS := hS.appA hown hgrow hat
                    simp only [List.length_cons] at hS
                    clear hown hgrow hat hlt
                    try go_simp
                    refine hK _ _ ?_
                    clear hK K
                    refine wpAny_ready (rs := [4]) (by kernel_rfl) (by simp) ?_
                    refine AllReady.cons rfl (fun K hK => ?_) ?_
                    · skip
                      have c4 := hS.x4.cell
                      go_simp
                      refine hK _ _ ?_
                      clear hK K
                      clear c4
                      refine wpAny_ready (rs := [7]) (by kernel_rfl) (by simp) ?_
                      refine AllReady.cons rfl (fun K hK => ?_) ?_
                      · skip
                        refine step_append_lies _ rfl (.tmp 41) (.tmp 43) 51 rfl w.heap.size 3 i0 (.int .i64 0) 1 8 Try.underlying51 hi0 hz0 hz1 hz2 rfl (by decide) _ _ _ (by rfl) hS.rO ⟨_, 0, none⟩ 1 1 [.int .i64 x] (by rfl) rfl (World.news_of_block (hS.tt _ (by simp)).1) (by simp [Value.oneCell']) (by decide) hmC hmD hS.lt4 _ rfl ?_
                        intro gN6 capN6 wN6 hown hgrow hat hlt
                        replace hS := hS.appO hown hgrow hat
                        clear hown hgrow hat hlt
                        try go_simp
                        refine hK _ _ ?_
                        clear hK K
                        refine wpAny_ready (rs := [8]) (by kernel_rfl) (by simp) ?_
                        refine AllReady.cons rfl (fun K hK => ?_) ?_
                        · skip
                          have c5 := hS.x5.cell
                          have f5 := hS.x5.frozen
                          go_simp
                          refine hK _ _ ?_
                          clear hK K
                          replace hS := hS.sto5 (.slice (some ⟨gN4, 0, none⟩) ((scan (bfs es v k) pre).length + 1 + 1) capN4)
                          clear c5 f5
                          generalize World.setCell _ _ _ = wS7 at hS ⊢
                          refine wpAny_ready (rs := [9]) (by kernel_rfl) (by simp) ?_
                          refine AllReady.cons rfl (fun K hK => ?_) ?_
                          · skip
                            have c4 := hS.x4.cell
                            have f4 := hS.x4.frozen
                            go_simp
                            refine hK _ _ ?_
                            clear hK K
                            replace hS := hS.sto4 (.slice (some ⟨gN6, 0, none⟩) ((scan (bfs es v k) pre).length + 1) capN6)
                            clear c4 f4
                            refine wpAny_done (by kernel_rfl) ?_ _
                            refine ⟨rfl, ?_⟩
                            gi_wp2
                            exact hend _ _ _ _ _ hS
                          exact AllReady.nil
                        exact AllReady.nil
                      exact AllReady.nil
                    exact AllReady.nil
                  refine AllReady.cons rfl (fun K hK => ?_) ?_
                  · skip
                    have c4 := hS.x4.cell
                    go_simp
                    refine hK _ _ ?_
                    clear hK K
                    clear c4
                    refine wpAny_ready (rs := [3]) (by kernel_rfl) (by simp) ?_
                    refine AllReady.cons rfl (fun K hK => ?_) ?_
                    · skip
                      refine step_append_lies _ rfl (.tmp 37) (.tmp 39) 51 rfl w.heap.size 3 i0 (.int .i64 0) 1 8 Try.underlying51 hi0 hz0 hz1 hz2 rfl (by decide) _ _ _ (by rfl) hS.rA ⟨_, 0, none⟩ 1 1 [.int .i64 x] (by rfl) rfl (World.news_of_block (hS.tt _ (by simp)).1) (by simp [Value.oneCell']) (by decide) hmA hmB hS.lt4 _ rfl ?_
                      intro gN5 capN5 wN5 hown hgrow hat hlt
                      replace hS := hS.appA hown hgrow hat
                      simp only [List.length_cons] at hS
                      clear hown hgrow hat hlt
                      try go_simp
                      refine hK _ _ ?_
                      clear hK K
                      refine wpAny_ready (rs := [7]) (by kernel_rfl) (by simp) ?_
                      refine AllReady.cons rfl (fun K hK => ?_) ?_
                      · skip
                        refine step_append_lies _ rfl (.tmp 41) (.tmp 43) 51 rfl w.heap.size 3 i0 (.int .i64 0) 1 8 Try.underlying51 hi0 hz0 hz1 hz2 rfl (by decide) _ _ _ (by rfl) hS.rO ⟨_, 0, none⟩ 1 1 [.int .i64 x] (by rfl) rfl (World.news_of_block (hS.tt _ (by simp)).1) (by simp [Value.oneCell']) (by decide) hmC hmD hS.lt4 _ rfl ?_
                        intro gN6 capN6 wN6 hown hgrow hat hlt
                        replace hS := hS.appO hown hgrow hat
                        clear hown hgrow hat hlt
                        try go_simp
                        refine hK _ _ ?_
                        clear hK K
                        refine wpAny_ready (rs := [8]) (by kernel_rfl) (by simp) ?_
                        refine AllReady.cons rfl (fun K hK => ?_) ?_
                        · skip
                          have c5 := hS.x5.cell
                          have f5 := hS.x5.frozen
                          go_simp
                          refine hK _ _ ?_
                          clear hK K
                          replace hS := hS.sto5 (.slice (some ⟨gN5, 0, none⟩) ((scan (bfs es v k) pre).length + 1 + 1) capN5)
                          clear c5 f5
                          generalize World.setCell _ _ _ = wS7 at hS ⊢
                          refine wpAny_ready (rs := [9]) (by kernel_rfl) (by simp) ?_
                          refine AllReady.cons rfl (fun K hK => ?_) ?_
                          · skip
                            have c4 := hS.x4.cell
                            have f4 := hS.x4.frozen
                            go_simp
                            refine hK _ _ ?_
                            clear hK K
                            replace hS := hS.sto4 (.slice (some ⟨gN6, 0, none⟩) ((scan (bfs es v k) pre).length + 1) capN6)
                            clear c4 f4
                            refine wpAny_done (by kernel_rfl) ?_ _
                            refine ⟨rfl, ?_⟩
                            gi_wp2
                            exact hend _ _ _ _ _ hS
                          exact AllReady.nil
                        exact AllReady.nil
                      exact AllReady.nil
                    exact AllReady.nil
                  exact AllReady.nil
                refine AllReady.cons rfl (fun K hK => ?_) ?_
                · skip
                  have c4 := hS.x4.cell
                  go_simp
                  refine hK _ _ ?_
                  clear hK K
                  clear c4
                  refine wpAny_ready (rs := [2]) (by kernel_rfl) (by simp) ?_
                  refine AllReady.cons rfl (fun K hK => ?_) ?_
                  · skip
                    go_simp
                    refine hK _ _ ?_
                    clear hK K
                    replace hS := hS.alloc
                    refine wpAny_ready (rs := [3]) (by kernel_rfl) (by simp) ?_
                    refine AllReady.cons rfl (fun K hK => ?_) ?_
                    · skip
                      refine step_append_lies _ rfl (.tmp 37) (.tmp 39) 51 rfl w.heap.size 3 i0 (.int .i64 0) 1 8 Try.underlying51 hi0 hz0 hz1 hz2 rfl (by decide) _ _ _ (by rfl) hS.rA ⟨_, 0, none⟩ 1 1 [.int .i64 x] (by rfl) rfl (World.news_of_block (hS.tt _ (by simp)).1) (by simp [Value.oneCell']) (by decide) hmA hmB hS.lt4 _ rfl ?_
                      intro gN5 capN5 wN5 hown hgrow hat hlt
                      replace hS := hS.appA hown hgrow hat
                      simp only [List.length_cons] at hS
                      clear hown hgrow hat hlt
                      try go_simp
                      refine hK _ _ ?_
                      clear hK K
                      refine wpAny_ready (rs := [7]) (by kernel_rfl) (by simp) ?_
                      refine AllReady.cons rfl (fun K hK => ?_) ?_
                      · skip
                        refine step_append_lies _ rfl (.tmp 41) (.tmp 43) 51 rfl w.heap.size 3 i0 (.int .i64 0) 1 8 Try.underlying51 hi0 hz0 hz1 hz2 rfl (by decide) _ _ _ (by rfl) hS.rO ⟨_, 0, none⟩ 1 1 [.int .i64 x] (by rfl) rfl (World.news_of_block (hS.tt _ (by simp)).1) (by simp [Value.oneCell']) (by decide) hmC hmD hS.lt4 _ rfl ?_
                        intro gN6 capN6 wN6 hown hgrow hat hlt
                        replace hS := hS.appO hown hgrow hat
                        clear hown hgrow hat hlt
                        try go_simp
                        refine hK _ _ ?_
                        clear hK K
                        refine wpAny_ready (rs := [8]) (by kernel_rfl) (by simp) ?_
                        refine AllReady.cons rfl (fun K hK => ?_) ?_
                        · skip
                          have c5 := hS.x5.cell
                          have f5 := hS.x5.frozen
                          go_simp
                          refine hK _ _ ?_
                          clear hK K
                          replace hS := hS.sto5 (.slice (some ⟨gN5, 0, none⟩) ((scan (bfs es v k) pre).length + 1 + 1) capN5)
                          clear c5 f5
                          generalize World.setCell _ _ _ = wS7 at hS ⊢
                          refine wpAny_ready (rs := [9]) (by kernel_rfl) (by simp) ?_
                          refine AllReady.cons rfl (fun K hK => ?_) ?_
                          · skip
                            have c4 := hS.x4.cell
                            have f4 := hS.x4.frozen
                            go_simp
                            refine hK _ _ ?_
                            clear hK K
                            replace hS := hS.sto4 (.slice (some ⟨gN6, 0, none⟩) ((scan (bfs es v k) pre).length + 1) capN6)
                            clear c4 f4
                            refine wpAny_done (by kernel_rfl) ?_ _
                            refine ⟨rfl, ?_⟩
                            gi_wp2
                            exact hend _ _ _ _ _ hS
                          exact AllReady.nil
                        exact AllReady.nil
                      exact AllReady.nil
                    exact AllReady.nil
                  exact AllReady.nil
                exact AllReady.nil
              exact AllReady.nil
            refine AllReady.cons rfl (fun K hK => ?_) ?_
            · skip
              go_simp
              refine hK _ _ ?_
              clear hK K
              replace hS := hS.alloc
              refine wpAny_ready (rs := [0, 4, 6]) (by kernel_rfl) (by simp) ?_
              refine AllReady.cons rfl (fun K hK => ?_) ?_
              · skip
                have c5 := hS.x5.cell
                go_simp
                refine hK _ _ ?_
                clear hK K
                clear c5
                refine wpAny_ready (rs := [3, 4, 6]) (by kernel_rfl) (by simp) ?_
                refine AllReady.cons rfl (fun K hK => ?_) ?_
                · skip
                  refine step_append_lies _ rfl (.tmp 37) (.tmp 39) 51 rfl w.heap.size 3 i0 (.int .i64 0) 1 8 Try.underlying51 hi0 hz0 hz1 hz2 rfl (by decide) _ _ _ (by rfl) hS.rA ⟨_, 0, none⟩ 1 1 [.int .i64 x] (by rfl) rfl (World.news_of_block (hS.tt _ (by simp)).1) (by simp [Value.oneCell']) (by decide) hmA hmB hS.lt4 _ rfl ?_
                  intro gN3 capN3 wN3 hown hgrow hat hlt
                  replace hS := hS.appA hown hgrow hat
                  simp only [List.length_cons] at hS
                  clear hown hgrow hat hlt
                  try go_simp
                  refine hK _ _ ?_
                  clear hK K
                  refine wpAny_ready (rs := [4, 6]) (by kernel_rfl) (by simp) ?_
                  refine AllReady.cons rfl (fun K hK => ?_) ?_
                  · skip
                    have c4 := hS.x4.cell
                    go_simp
                    refine hK _ _ ?_
                    clear hK K
                    clear c4
                    refine wpAny_ready (rs := [6]) (by kernel_rfl) (by simp) ?_
                    refine AllReady.cons rfl (fun K hK => ?_) ?_
                    · skip
                      go_simp
                      refine hK _ _ ?_
                      clear hK K
                      replace hS := hS.alloc
                      refine wpAny_ready (rs := [7]) (by kernel_rfl) (by simp) ?_
                      refine AllReady.cons rfl (fun K hK => ?_) ?_
                      · skip
                        refine step_append_lies _ rfl (.tmp 41) (.tmp 43) 51 rfl w.heap.size 3 i0 (.int .i64 0) 1 8 Try.underlying51 hi0 hz0 hz1 hz2 rfl (by decide) _ _ _ (by rfl) hS.rO ⟨_, 0, none⟩ 1 1 [.int .i64 x] (by rfl) rfl (World.news_of_block (hS.tt _ (by simp)).1) (by simp [Value.oneCell']) (by decide) hmC hmD hS.lt4 _ rfl ?_
                        intro gN6 capN6 wN6 hown hgrow hat hlt
                        replace hS := hS.appO hown hgrow hat
                        clear hown hgrow hat hlt
                        try go_simp
                        refine hK _ _ ?_
                        clear hK K
                        refine wpAny_ready (rs := [8]) (by kernel_rfl) (by simp) ?_
                        refine AllReady.cons rfl (fun K hK => ?_) ?_
                        · skip
                          have c5 := hS.x5.cell
                          have f5 := hS.x5.frozen
                          go_simp
                          refine hK _ _ ?_
                          clear hK K
                          replace hS := hS.sto5 (.slice (some ⟨gN3, 0, none⟩) ((scan (bfs es v k) pre).length + 1 + 1) capN3)
                          clear c5 f5
                          generalize World.setCell _ _ _ = wS7 at hS ⊢
                          refine wpAny_ready (rs := [9]) (by kernel_rfl) (by simp) ?_
                          refine AllReady.cons rfl (fun K hK => ?_) ?_
                          · skip
                            have c4 := hS.x4.cell
                            have f4 := hS.x4.frozen
                            go_simp
                            refine hK _ _ ?_
                            clear hK K
                            replace hS := hS.sto4 (.slice (some ⟨gN6, 0, none⟩) ((scan (bfs es v k) pre).length + 1) capN6)
                            clear c4 f4
                            refine wpAny_done (by kernel_rfl) ?_ _
                            refine ⟨rfl, ?_⟩
                            gi_wp2
                            exact hend _ _ _ _ _ hS
                          exact AllReady.nil
                        exact AllReady.nil
                      exact AllReady.nil
                    exact AllReady.nil
                  refine AllReady.cons rfl (fun K hK => ?_) ?_
                  · skip
                    go_simp
                    refine hK _ _ ?_
                    clear hK K
                    replace hS := hS.alloc
                    refine wpAny_ready (rs := [4]) (by kernel_rfl) (by simp) ?_
                    refine AllReady.cons rfl (fun K hK => ?_) ?_
                    · skip
                      have c4 := hS.x4.cell
                      go_simp
                      refine hK _ _ ?_
                      clear hK K
                      clear c4
                      refine wpAny_ready (rs := [7]) (by kernel_rfl) (by simp) ?_
                      refine AllReady.cons rfl (fun K hK => ?_) ?_
                      · skip
                        refine step_append_lies _ rfl (.tmp 41) (.tmp 43) 51 rfl w.heap.size 3 i0 (.int .i64 0) 1 8 Try.underlying51 hi0 hz0 hz1 hz2 rfl (by decide) _ _ _ (by rfl) hS.rO ⟨_, 0, none⟩ 1 1 [.int .i64 x] (by rfl) rfl (World.news_of_block (hS.tt _ (by simp)).1) (by simp [Value.oneCell']) (by decide) hmC hmD hS.lt4 _ rfl ?_
                        intro gN6 capN6 wN6 hown hgrow hat hlt
                        replace hS := hS.appO hown hgrow hat
                        clear hown hgrow hat hlt
                        try go_simp
                        refine hK _ _ ?_
                        clear hK K
                        refine wpAny_ready (rs := [8]) (by kernel_rfl) (by simp) ?_
                        refine AllReady.cons rfl (fun K hK => ?_) ?_
                        · skip
                          have c5 := hS.x5.cell
                          have f5 := hS.x5.frozen
                          go_simp
                          refine hK _ _ ?_
                          clear hK K
                          replace hS := hS.sto5 (.slice (some ⟨gN3, 0, none⟩) ((scan (bfs es v k) pre).length + 1 + 1) capN3)
                          clear c5 f5
                          generalize World.setCell _ _ _ = wS7 at hS ⊢
                          refine wpAny_ready (rs := [9]) (by kernel_rfl) (by simp) ?_
                          refine AllReady.cons rfl (fun K hK => ?_) ?_
                          · skip
                            have c4 := hS.x4.cell
                            have f4 := hS.x4.frozen
                            go_simp
                            refine hK _ _ ?_
                            clear hK K
                            replace hS := hS.sto4 (.slice (some ⟨gN6, 0, none⟩) ((scan (bfs es v k) pre).length + 1) capN6)
                            clear c4 f4
                            refine wpAny_done (by kernel_rfl) ?_ _
                            refine ⟨rfl, ?_⟩
                            gi_wp2
                            exact hend _ _ _ _ _ hS
                          exact AllReady.nil
                        exact AllReady.nil
                      exact AllReady.nil
                    exact AllReady.nil
                  exact AllReady.nil
                refine AllReady.cons rfl (fun K hK => ?_) ?_
                · skip
                  have c4 := hS.x4.cell
                  go_simp
                  refine hK _ _ ?_
                  clear hK K
                  clear c4
                  refine wpAny_ready (rs := [3, 6]) (by kernel_rfl) (by simp) ?_
                  refine AllReady.cons rfl (fun K hK => ?_) ?_
                  · skip
                    refine step_append_lies _ rfl (.tmp 37) (.tmp 39) 51 rfl w.heap.size 3 i0 (.int .i64 0) 1 8 Try.underlying51 hi0 hz0 hz1 hz2 rfl (by decide) _ _ _ (by rfl) hS.rA ⟨_, 0, none⟩ 1 1 [.int .i64 x] (by rfl) rfl (World.news_of_block (hS.tt _ (by simp)).1) (by simp [Value.oneCell']) (by decide) hmA hmB hS.lt4 _ rfl ?_
                    intro gN4 capN4 wN4 hown hgrow hat hlt
                    replace hS := hS.appA hown hgrow hat
                    simp only [List.length_cons] at hS
                    clear hown hgrow hat hlt
                    try go_simp
                    refine hK _ _ ?_
                    clear hK K
                    refine wpAny_ready (rs := [6]) (by kernel_rfl) (by simp) ?_
                    refine AllReady.cons rfl (fun K hK => ?_) ?_
                    · skip
                      go_simp
                      refine hK _ _ ?_
                      clear hK K
                      replace hS := hS.alloc
                      refine wpAny_ready (rs := [7]) (by kernel_rfl) (by simp) ?_
                      refine AllReady.cons rfl (fun K hK => ?_) ?_
                      · skip
                        refine step_append_lies _ rfl (.tmp 41) (.tmp 43) 51 rfl w.heap.size 3 i0 (.int .i64 0) 1 8 Try.underlying51 hi0 hz0 hz1 hz2 rfl (by decide) _ _ _ (by rfl) hS.rO ⟨_, 0, none⟩ 1 1 [.int .i64 x] (by rfl) rfl (World.news_of_block (hS.tt _ (by simp)).1) (by simp [Value.oneCell']) (by decide) hmC hmD hS.lt4 _ rfl ?_
                        intro gN6 capN6 wN6 hown hgrow hat hlt
                        replace hS := hS.appO hown hgrow hat
                        clear hown hgrow hat hlt
                        try go_simp
                        refine hK _ _ ?_
                        clear hK K
                        refine wpAny_ready (rs := [8]) (by kernel_rfl) (by simp) ?_
                        refine AllReady.cons rfl (fun K hK => ?_) ?_
                        · skip
                          have c5 := hS.x5.cell
                          have f5 := hS.x5.frozen
                          go_simp
                          refine hK _ _ ?_
                          clear hK K
                          replace hS := hS.sto5 (.slice (some ⟨gN4, 0, none⟩) ((scan (bfs es v k) pre).length + 1 + 1) capN4)
                          clear c5 f5
                          generalize World.setCell _ _ _ = wS7 at hS ⊢
                          refine wpAny_ready (rs := [9]) (by kernel_rfl) (by simp) ?_
                          refine AllReady.cons rfl (fun K hK => ?_) ?_
                          · skip
                            have c4 := hS.x4.cell
                            have f4 := hS.x4.frozen
                            go_simp
                            refine hK _ _ ?_
                            clear hK K
                            replace hS := hS.sto4 (.slice (some ⟨gN6, 0, none⟩) ((scan (bfs es v k) pre).length + 1) capN6)
                            clear c4 f4
                            refine wpAny_done (by kernel_rfl) ?_ _
                            refine ⟨rfl, ?_⟩
                            gi_wp2
                            exact hend _ _ _ _ _ hS
                          exact AllReady.nil
                        exact AllReady.nil
                      exact AllReady.nil
                    exact AllReady.nil
                  refine AllReady.cons rfl (fun K hK => ?_) ?_
                  · skip
                    go_simp
                    refine hK _ _ ?_
                    clear hK K
                    replace hS := hS.alloc
                    refine wpAny_ready (rs := [3]) (by kernel_rfl) (by simp) ?_
                    refine AllReady.cons rfl (fun K hK => ?_) ?_
                    · skip
                      refine step_append_lies _ rfl (.tmp 37) (.tmp 39) 51 rfl w.heap.size 3 i0 (.int .i64 0) 1 8 Try.underlying51 hi0 hz0 hz1 hz2 rfl (by decide) _ _ _ (by rfl) hS.rA ⟨_, 0, none⟩ 1 1 [.int .i64 x] (by rfl) rfl (World.news_of_block (hS.tt _ (by simp)).1) (by simp [Value.oneCell']) (by decide) hmA hmB hS.lt4 _ rfl ?_
                      intro gN5 capN5 wN5 hown hgrow hat hlt
                      replace hS := hS.appA hown hgrow hat
                      simp only [List.length_cons] at hS
                      clear hown hgrow hat hlt
                      try go_simp
                      refine hK _ _ ?_
                      clear hK K
                      refine wpAny_ready (rs := [7]) (by kernel_rfl) (by simp) ?_
                      refine AllReady.cons rfl (fun K hK => ?_) ?_
                      · skip
                        refine step_append_lies _ rfl (.tmp 41) (.tmp 43) 51 rfl w.heap.size 3 i0 (.int .i64 0) 1 8 Try.underlying51 hi0 hz0 hz1 hz2 rfl (by decide) _ _ _ (by rfl) hS.rO ⟨_, 0, none⟩ 1 1 [.int .i64 x] (by rfl) rfl (World.news_of_block (hS.tt _ (by simp)).1) (by simp [Value.oneCell']) (by decide) hmC hmD hS.lt4 _ rfl ?_
                        intro gN6 capN6 wN6 hown hgrow hat hlt
                        replace hS := hS.appO hown hgrow hat
                        clear hown hgrow hat hlt
                        try go_simp
                        refine hK _ _ ?_
                        clear hK K
                        refine wpAny_ready (rs := [8]) (by kernel_rfl) (by simp) ?_
                        refine AllReady.cons rfl (fun K hK => ?_) ?_
                        · skip
                          have c5 := hS.x5.cell
                          have f5 := hS.x5.frozen
                          go_simp
                          refine hK _ _ ?_
                          clear hK K
                          replace hS := hS.sto5 (.slice (some ⟨gN5, 0, none⟩) ((scan (bfs es v k) pre).length + 1 + 1) capN5)
                          clear c5 f5
                          generalize World.setCell _ _ _ = wS7 at hS ⊢
                          refine wpAny_ready (rs := [9]) (by kernel_rfl) (by simp) ?_
                          refine AllReady.cons rfl (fun K hK => ?_) ?_
                          · skip
                            have c4 := hS.x4.cell
                            have f4 := hS.x4.frozen
                            go_simp
                            refine hK _ _ ?_
                            clear hK K
                            replace hS := hS.sto4 (.slice (some ⟨gN6, 0, none⟩) ((scan (bfs es v k) pre).length + 1) capN6)
                            clear c4 f4
                            refine wpAny_done (by kernel_rfl) ?_ _
                            refine ⟨rfl, ?_⟩
                            gi_wp2
                            exact hend _ _ _ _ _ hS
                          exact AllReady.nil
                        exact AllReady.nil
                      exact AllReady.nil
                    exact AllReady.nil
                  exact AllReady.nil
                refine AllReady.cons rfl (fun K hK => ?_) ?_
                · skip
                  go_simp
                  refine hK _ _ ?_
                  clear hK K
                  replace hS := hS.alloc
                  refine wpAny_ready (rs := [3, 4]) (by kernel_rfl) (by simp) ?_
                  refine AllReady.cons rfl (fun K hK => ?_) ?_
                  · skip
                    refine step_append_lies _ rfl (.tmp 37) (.tmp 39) 51 rfl w.heap.size 3 i0 (.int .i64 0) 1 8 Try.underlying51 hi0 hz0 hz1 hz2 rfl (by decide) _ _ _ (by rfl) hS.rA ⟨_, 0, none⟩ 1 1 [.int .i64 x] (by rfl) rfl (World.news_of_block (hS.tt _ (by simp)).1) (by simp [Value.oneCell']) (by decide) hmA hmB hS.lt4 _ rfl ?_
                    intro gN4 capN4 wN4 hown hgrow hat hlt
                    replace hS := hS.appA hown hgrow hat
                    simp only [List.length_cons] at hS
                    clear hown hgrow hat hlt
                    try go_simp
                    refine hK _ _ ?_
                    clear hK K
                    refine wpAny_ready (rs := [4]) (by kernel_rfl) (by simp) ?_
                    refine AllReady.cons rfl (fun K hK => ?_) ?_
                    · skip
                      have c4 := hS.x4.cell
                      go_simp
                      refine hK _ _ ?_
                      clear hK K
                      clear c4
                      refine wpAny_ready (rs := [7]) (by kernel_rfl) (by simp) ?_
                      refine AllReady.cons rfl (fun K hK => ?_) ?_
                      · skip
                        refine step_append_lies _ rfl (.tmp 41) (.tmp 43) 51 rfl w.heap.size 3 i0 (.int .i64 0) 1 8 Try.underlying51 hi0 hz0 hz1 hz2 rfl (by decide) _ _ _ (by rfl) hS.rO ⟨_, 0, none⟩ 1 1 [.int .i64 x] (by rfl) rfl (World.news_of_block (hS.tt _ (by simp)).1) (by simp [Value.oneCell']) (by decide) hmC hmD hS.lt4 _ rfl ?_
                        intro gN6 capN6 wN6 hown hgrow hat hlt
                        replace hS := hS.appO hown hgrow hat
                        clear hown hgrow hat hlt
                        try go_simp
                        refine hK _ _ ?_
                        clear hK K
                        refine wpAny_ready (rs := [8]) (by kernel_rfl) (by simp) ?_
                        refine AllReady.cons rfl (fun K hK => ?_) ?_
                        · skip
                          have c5 := hS.x5.cell
                          have f5 := hS.x5.frozen
                          go_simp
                          refine hK _ _ ?_
                          clear hK K
                          replace hS := hS.sto5 (.slice (some ⟨gN4, 0, none⟩) ((scan (bfs es v k) pre).length + 1 + 1) capN4)
                          clear c5 f5
                          generalize World.setCell _ _ _ = wS7 at hS ⊢
                          refine wpAny_ready (rs := [9]) (by kernel_rfl) (by simp) ?_
                          refine AllReady.cons rfl (fun K hK => ?_) ?_
                          · skip
                            have c4 := hS.x4.cell
                            have f4 := hS.x4.frozen
                            go_simp
                            refine hK _ _ ?_
                            clear hK K
                            replace hS := hS.sto4 (.slice (some ⟨gN6, 0, none⟩) ((scan (bfs es v k) pre).length + 1) capN6)
                            clear c4 f4
                            refine wpAny_done (by kernel_rfl) ?_ _
                            refine ⟨rfl, ?_⟩
                            gi_wp2
                            exact hend _ _ _ _ _ hS
                          exact AllReady.nil
                        exact AllReady.nil
                      exact AllReady.nil
                    exact AllReady.nil
                  refine AllReady.cons rfl (fun K hK => ?_) ?_
                  · skip
                    have c4 := hS.x4.cell
                    go_simp
                    refine hK _ _ ?_
                    clear hK K
                    clear c4
                    refine wpAny_ready (rs := [3]) (by kernel_rfl) (by simp) ?_
                    refine AllReady.cons rfl (fun K hK => ?_) ?_
                    · skip
                      refine step_append_lies _ rfl (.tmp 37) (.tmp 39) 51 rfl w.heap.size 3 i0 (.int .i64 0) 1 8 Try.underlying51 hi0 hz0 hz1 hz2 rfl (by decide) _ _ _ (by rfl) hS.rA ⟨_, 0, none⟩ 1 1 [.int .i64 x] (by rfl) rfl (World.news_of_block (hS.tt _ (by simp)).1) (by simp [Value.oneCell']) (by decide) hmA hmB hS.lt4 _ rfl ?_
                      intro gN5 capN5 wN5 hown hgrow hat hlt
                      replace hS := hS.appA hown hgrow hat
                      simp only [List.length_cons] at hS
                      clear hown hgrow hat hlt
                      try go_simp
                      refine hK _ _ ?_
                      clear hK K
                      refine wpAny_ready (rs := [7]) (by kernel_rfl) (by simp) ?_
                      refine AllReady.cons rfl (fun K hK => ?_) ?_
                      · skip
                        refine step_append_lies _ rfl (.tmp 41) (.tmp 43) 51 rfl w.heap.size 3 i0 (.int .i64 0) 1 8 Try.underlying51 hi0 hz0 hz1 hz2 rfl (by decide) _ _ _ (by rfl) hS.rO ⟨_, 0, none⟩ 1 1 [.int .i64 x] (by rfl) rfl (World.news_of_block (hS.tt _ (by simp)).1) (by simp [Value.oneCell']) (by decide) hmC hmD hS.lt4 _ rfl ?_
                        intro gN6 capN6 wN6 hown hgrow hat hlt
                        replace hS := hS.appO hown hgrow hat
                        clear hown hgrow hat hlt
                        try go_simp
                        refine hK _ _ ?_
                        clear hK K
                        refine wpAny_ready (rs := [8]) (by kernel_rfl) (by simp) ?_
                        refine AllReady.cons rfl (fun K hK => ?_) ?_
                        · skip
                          have c5 := hS.x5.cell
                          have f5 := hS.x5.frozen
                          go_simp
                          refine hK _ _ ?_
                          clear hK K
                          replace hS := hS.sto5 (.slice (some ⟨gN5, 0, none⟩) ((scan (bfs es v k) pre).length + 1 + 1) capN5)
                          clear c5 f5
                          generalize World.setCell _ _ _ = wS7 at hS ⊢
                          refine wpAny_ready (rs := [9]) (by kernel_rfl) (by simp) ?_
                          refine AllReady.cons rfl (fun K hK => ?_) ?_
                          · skip
                            have c4 := hS.x4.cell
                            have f4 := hS.x4.frozen
                            go_simp
                            refine hK _ _ ?_
                            clear hK K
                            replace hS := hS.sto4 (.slice (some ⟨gN6, 0, none⟩) ((scan (bfs es v k) pre).length + 1) capN6)
                            clear c4 f4
                            refine wpAny_done (by kernel_rfl) ?_ _
                            refine ⟨rfl, ?_⟩
                            gi_wp2
                            exact hend _ _ _ _ _ hS
                          exact AllReady.nil
                        exact AllReady.nil
                      exact AllReady.nil
                    exact AllReady.nil
                  exact AllReady.nil
                exact AllReady.nil
              refine AllReady.cons rfl (fun K hK => ?_) ?_
              · skip
                have c4 := hS.x4.cell
                go_simp
                refine hK _ _ ?_
                clear hK K
                clear c4
                refine wpAny_ready (rs := [0, 6]) (by kernel_rfl) (by simp) ?_
                refine AllReady.cons rfl (fun K hK => ?_) ?_
                · skip
                  have c5 := hS.x5.cell
                  go_simp
                  refine hK _ _ ?_
                  clear hK K
                  clear c5
                  refine wpAny_ready (rs := [3, 6]) (by kernel_rfl) (by simp) ?_
                  refine AllReady.cons rfl (fun K hK => ?_) ?_
                  · skip
                    refine step_append_lies _ rfl (.tmp 37) (.tmp 39) 51 rfl w.heap.size 3 i0 (.int .i64 0) 1 8 Try.underlying51 hi0 hz0 hz1 hz2 rfl (by decide) _ _ _ (by rfl) hS.rA ⟨_, 0, none⟩ 1 1 [.int .i64 x] (by rfl) rfl (World.news_of_block (hS.tt _ (by simp)).1) (by simp [Value.oneCell']) (by decide) hmA hmB hS.lt4 _ rfl ?_
                    intro gN4 capN4 wN4 hown hgrow hat hlt
                    replace hS := hS.appA hown hgrow hat
                    simp only [List.length_cons] at hS
                    clear hown hgrow hat hlt
                    try go_simp
                    refine hK _ _ ?_
                    clear hK K
                    refine wpAny_ready (rs := [6]) (by kernel_rfl) (by simp) ?_
                    refine AllReady.cons rfl (fun K hK => ?_) ?_
                    · skip
                      go_simp
                      refine hK _ _ ?_
                      clear hK K
                      replace hS := hS.alloc
                      refine wpAny_ready (rs := [7]) (by kernel_rfl) (by simp) ?_
                      refine AllReady.cons rfl (fun K hK => ?_) ?_
                      · skip
                        refine step_append_lies _ rfl (.tmp 41) (.tmp 43) 51 rfl w.heap.size 3 i0 (.int .i64 0) 1 8 Try.underlying51 hi0 hz0 hz1 hz2 rfl (by decide) _ _ _ (by rfl) hS.rO ⟨_, 0, none⟩ 1 1 [.int .i64 x] (by rfl) rfl (World.news_of_block (hS.tt _ (by simp)).1) (by simp [Value.oneCell']) (by decide) hmC hmD hS.lt4 _ rfl ?_
                        intro gN6 capN6 wN6 hown hgrow hat hlt
                        replace hS := hS.appO hown hgrow hat
                        clear hown hgrow hat hlt
                        try go_simp
                        refine hK _ _ ?_
                        clear hK K
                        refine wpAny_ready (rs := [8]) (by kernel_rfl) (by simp) ?_
                        refine AllReady.cons rfl (fun K hK => ?_) ?_
                        · skip
                          have c5 := hS.x5.cell
                          have f5 := hS.x5.frozen
                          go_simp
                          refine hK _ _ ?_
                          clear hK K
                          replace hS := hS.sto5 (.slice (some ⟨gN4, 0, none⟩) ((scan (bfs es v k) pre).length + 1 + 1) capN4)
                          clear c5 f5
                          generalize World.setCell _ _ _ = wS7 at hS ⊢
                          refine wpAny_ready (rs := [9]) (by kernel_rfl) (by simp) ?_
                          refine AllReady.cons rfl (fun K hK => ?_) ?_
                          · skip
                            have c4 := hS.x4.cell
                            have f4 := hS.x4.frozen
                            go_simp
                            refine hK _ _ ?_
                            clear hK K
                            replace hS := hS.sto4 (.slice (some ⟨gN6, 0, none⟩) ((scan (bfs es v k) pre).length + 1) capN6)
                            clear c4 f4
                            refine wpAny_done (by kernel_rfl) ?_ _
                            refine ⟨rfl, ?_⟩
                            gi_wp2
                            exact hend _ _ _ _ _ hS
                          exact AllReady.nil
                        exact AllReady.nil
                      exact AllReady.nil
                    exact AllReady.nil
                  refine AllReady.cons rfl (fun K hK => ?_) ?_
                  · skip
                    go_simp
                    refine hK _ _ ?_
                    clear hK K
                    replace hS := hS.alloc
                    refine wpAny_ready (rs := [3]) (by kernel_rfl) (by simp) ?_
                    refine AllReady.cons rfl (fun K hK => ?_) ?_
                    · skip
                      refine step_append_lies _ rfl (.tmp 37) (.tmp 39) 51 rfl w.heap.size 3 i0 (.int .i64 0) 1 8 Try.underlying51 hi0 hz0 hz1 hz2 rfl (by decide) _ _ _ (by rfl) hS.rA ⟨_, 0, none⟩ 1 1 [.int .i64 x] (by rfl) rfl (World.news_of_block (hS.tt _ (by simp)).1) (by simp [Value.oneCell']) (by decide) hmA hmB hS.lt4 _ rfl ?_
                      intro gN5 capN5 wN5 hown hgrow hat hlt
                      replace hS := hS.appA hown hgrow hat
                      simp only [List.length_cons] at hS
                      clear hown hgrow hat hlt
                      try go_simp
                      refine hK _ _ ?_
                      clear hK K
                      refine wpAny_ready (rs := [7]) (by kernel_rfl) (by simp) ?_
                      refine AllReady.cons rfl (fun K hK => ?_) ?_
                      · skip
                        refine step_append_lies _ rfl (.tmp 41) (.tmp 43) 51 rfl w.heap.size 3 i0 (.int .i64 0) 1 8 Try.underlying51 hi0 hz0 hz1 hz2 rfl (by decide) _ _ _ (by rfl) hS.rO ⟨_, 0, none⟩ 1 1 [.int .i64 x] (by rfl) rfl (World.news_of_block (hS.tt _ (by simp)).1) (by simp [Value.oneCell']) (by decide) hmC hmD hS.lt4 _ rfl ?_
                        intro gN6 capN6 wN6 hown hgrow hat hlt
                        replace hS := hS.appO hown hgrow hat
                        clear hown hgrow hat hlt
                        try go_simp
                        refine hK _ _ ?_
                        clear hK K
                        refine wpAny_ready (rs := [8]) (by kernel_rfl) (by simp) ?_
                        refine AllReady.cons rfl (fun K hK => ?_) ?_
                        · skip
                          have c5 := hS.x5.cell
                          have f5 := hS.x5.frozen
                          go_simp
                          refine hK _ _ ?_
                          clear hK K
                          replace hS := hS.sto5 (.slice (some ⟨gN5, 0, none⟩) ((scan (bfs es v k) pre).length + 1 + 1) capN5)
                          clear c5 f5
                          generalize World.setCell _ _ _ = wS7 at hS ⊢
                          refine wpAny_ready (rs := [9]) (by kernel_rfl) (by simp) ?_
                          refine AllReady.cons rfl (fun K hK => ?_) ?_
                          · skip
                            have c4 := hS.x4.cell
                            have f4 := hS.x4.frozen
                            go_simp
                            refine hK _ _ ?_
                            clear hK K
                            replace hS := hS.sto4 (.slice (some ⟨gN6, 0, none⟩) ((scan (bfs es v k) pre).length + 1) capN6)
                            clear c4 f4
                            refine wpAny_done (by kernel_rfl) ?_ _
                            refine ⟨rfl, ?_⟩
                            gi_wp2
                            exact hend _ _ _ _ _ hS
                          exact AllReady.nil
                        exact AllReady.nil
                      exact AllReady.nil
                    exact AllReady.nil
                  exact AllReady.nil
                refine AllReady.cons rfl (fun K hK => ?_) ?_
                · skip
                  go_simp
                  refine hK _ _ ?_
                  clear hK K
                  replace hS := hS.alloc
                  refine wpAny_ready (rs := [0]) (by kernel_rfl) (by simp) ?_
                  refine AllReady.cons rfl (fun K hK => ?_) ?_
                  · skip
                    have c5 := hS.x5.cell
                    go_simp
                    refine hK _ _ ?_
                    clear hK K
                    clear c5
                    refine wpAny_ready (rs := [3]) (by kernel_rfl) (by simp) ?_
                    refine AllReady.cons rfl (fun K hK => ?_) ?_
                    · skip
                      refine step_append_lies _ rfl (.tmp 37) (.tmp 39) 51 rfl w.heap.size 3 i0 (.int .i64 0) 1 8 Try.underlying51 hi0 hz0 hz1 hz2 rfl (by decide) _ _ _ (by rfl) hS.rA ⟨_, 0, none⟩ 1 1 [.int .i64 x] (by rfl) rfl (World.news_of_block (hS.tt _ (by simp)).1) (by simp [Value.oneCell']) (by decide) hmA hmB hS.lt4 _ rfl ?_
                      intro gN5 capN5 wN5 hown hgrow hat hlt
                      replace hS := hS.appA hown hgrow hat
                      simp only [List.length_cons] at hS
                      clear hown hgrow hat hlt
                      try go_simp
                      refine hK _ _ ?_
                      clear hK K
                      refine wpAny_ready (rs := [7]) (by kernel_rfl) (by simp) ?_
                      refine AllReady.cons rfl (fun K hK => ?_) ?_
                      · skip
                        refine step_append_lies _ rfl (.tmp 41) (.tmp 43) 51 rfl w.heap.size 3 i0 (.int .i64 0) 1 8 Try.underlying51 hi0 hz0 hz1 hz2 rfl (by decide) _ _ _ (by rfl) hS.rO ⟨_, 0, none⟩ 1 1 [.int .i64 x] (by rfl) rfl (World.news_of_block (hS.tt _ (by simp)).1) (by simp [Value.oneCell']) (by decide) hmC hmD hS.lt4 _ rfl ?_
                        intro gN6 capN6 wN6 hown hgrow hat hlt
                        replace hS := hS.appO hown hgrow hat
                        clear hown hgrow hat hlt
                        try go_simp
                        refine hK _ _ ?_
                        clear hK K
                        refine wpAny_ready (rs := [8]) (by kernel_rfl) (by simp) ?_
                        refine AllReady.cons rfl (fun K hK => ?_) ?_
                        · skip
                          have c5 := hS.x5.cell
                          have f5 := hS.x5.frozen
                          go_simp
                          refine hK _ _ ?_
                          clear hK K
                          replace hS := hS.sto5 (.slice (some ⟨gN5, 0, none⟩) ((scan (bfs es v k) pre).length + 1 + 1) capN5)
                          clear c5 f5
                          generalize World.setCell _ _ _ = wS7 at hS ⊢
                          refine wpAny_ready (rs := [9]) (by kernel_rfl) (by simp) ?_
                          refine AllReady.cons rfl (fun K hK => ?_) ?_
                          · skip
                            have c4 := hS.x4.cell
                            have f4 := hS.x4.frozen
                            go_simp
                            refine hK _ _ ?_
                            clear hK K
                            replace hS := hS.sto4 (.slice (some ⟨gN6, 0, none⟩) ((scan (bfs es v k) pre).length + 1) capN6)
                            clear c4 f4
                            refine wpAny_done (by kernel_rfl) ?_ _
                            refine ⟨rfl, ?_⟩
                            gi_wp2
                            exact hend _ _ _ _ _ hS
                          exact AllReady.nil
                        exact AllReady.nil
                      exact AllReady.nil
                    exact AllReady.nil
                  exact AllReady.nil
                exact AllReady.nil
              refine AllReady.cons rfl (fun K hK => ?_) ?_
              · skip
                go_simp
                refine hK _ _ ?_
                clear hK K
                replace hS := hS.alloc
                refine wpAny_ready (rs := [0, 4]) (by kernel_rfl) (by simp) ?_
                refine AllReady.cons rfl (fun K hK => ?_) ?_
                · skip
                  have c5 := hS.x5.cell
                  go_simp
                  refine hK _ _ ?_
                  clear hK K
                  clear c5
                  refine wpAny_ready (rs := [3, 4]) (by kernel_rfl) (by simp) ?_
                  refine AllReady.cons rfl (fun K hK => ?_) ?_
                  · skip
                    refine step_append_lies _ rfl (.tmp 37) (.tmp 39) 51 rfl w.heap.size 3 i0 (.int .i64 0) 1 8 Try.underlying51 hi0 hz0 hz1 hz2 rfl (by decide) _ _ _ (by rfl) hS.rA ⟨_, 0, none⟩ 1 1 [.int .i64 x] (by rfl) rfl (World.news_of_block (hS.tt _ (by simp)).1) (by simp [Value.oneCell']) (by decide) hmA hmB hS.lt4 _ rfl ?_
                    intro gN4 capN4 wN4 hown hgrow hat hlt
                    replace hS := hS.appA hown hgrow hat
                    simp only [List.length_cons] at hS
                    clear hown hgrow hat hlt
                    try go_simp
                    refine hK _ _ ?_
                    clear hK K
                    refine wpAny_ready (rs := [4]) (by kernel_rfl) (by simp) ?_
                    refine AllReady.cons rfl (fun K hK => ?_) ?_
                    · skip
                      have c4 := hS.x4.cell
                      go_simp
                      refine hK _ _ ?_
                      clear hK K
                      clear c4
                      refine wpAny_ready (rs := [7]) (by kernel_rfl) (by simp) ?_
                      refine AllReady.cons rfl (fun K hK => ?_) ?_
                      · skip
                        refine step_append_lies _ rfl (.tmp 41) (.tmp 43) 51 rfl w.heap.size 3 i0 (.int .i64 0) 1 8 Try.underlying51 hi0 hz0 hz1 hz2 rfl (by decide) _ _ _ (by rfl) hS.rO ⟨_, 0, none⟩ 1 1 [.int .i64 x] (by rfl) rfl (World.news_of_block (hS.tt _ (by simp)).1) (by simp [Value.oneCell']) (by decide) hmC hmD hS.lt4 _ rfl ?_
                        intro gN6 capN6 wN6 hown hgrow hat hlt
                        replace hS := hS.appO hown hgrow hat
                        clear hown hgrow hat hlt
                        try go_simp
                        refine hK _ _ ?_
                        clear hK K
                        refine wpAny_ready (rs := [8]) (by kernel_rfl) (by simp) ?_
                        refine AllReady.cons rfl (fun K hK => ?_) ?_
                        · skip
                          have c5 := hS.x5.cell
                          have f5 := hS.x5.frozen
                          go_simp
                          refine hK _ _ ?_
                          clear hK K
                          replace hS := hS.sto5 (.slice (some ⟨gN4, 0, none⟩) ((scan (bfs es v k) pre).length + 1 + 1) capN4)
                          clear c5 f5
                          generalize World.setCell _ _ _ = wS7 at hS ⊢
                          refine wpAny_ready (rs := [9]) (by kernel_rfl) (by simp) ?_
                          refine AllReady.cons rfl (fun K hK => ?_) ?_
                          · skip
                            have c4 := hS.x4.cell
                            have f4 := hS.x4.frozen
                            go_simp
                            refine hK _ _ ?_
                            clear hK K
                            replace hS := hS.sto4 (.slice (some ⟨gN6, 0, none⟩) ((scan (bfs es v k) pre).length + 1) capN6)
                            clear c4 f4
                            refine wpAny_done (by kernel_rfl) ?_ _
                            refine ⟨rfl, ?_⟩
                            gi_wp2
                            exact hend _ _ _ _ _ hS
                          exact AllReady.nil
                        exact AllReady.nil
                      exact AllReady.nil
                    exact AllReady.nil
                  refine AllReady.cons rfl (fun K hK => ?_) ?_
                  · skip
                    have c4 := hS.x4.cell
                    go_simp
                    refine hK _ _ ?_
                    clear hK K
                    clear c4
                    refine wpAny_ready (rs := [3]) (by kernel_rfl) (by simp) ?_
                    refine AllReady.cons rfl (fun K hK => ?_) ?_
                    · skip
                      refine step_append_lies _ rfl (.tmp 37) (.tmp 39) 51 rfl w.heap.size 3 i0 (.int .i64 0) 1 8 Try.underlying51 hi0 hz0 hz1 hz2 rfl (by decide) _ _ _ (by rfl) hS.rA ⟨_, 0, none⟩ 1 1 [.int .i64 x] (by rfl) rfl (World.news_of_block (hS.tt _ (by simp)).1) (by simp [Value.oneCell']) (by decide) hmA hmB hS.lt4 _ rfl ?_
                      intro gN5 capN5 wN5 hown hgrow hat hlt
                      replace hS := hS.appA hown hgrow hat
                      simp only [List.length_cons] at hS
                      clear hown hgrow hat hlt
                      try go_simp
                      refine hK _ _ ?_
                      clear hK K
                      refine wpAny_ready (rs := [7]) (by kernel_rfl) (by simp) ?_
                      refine AllReady.cons rfl (fun K hK => ?_) ?_
                      · skip
                        refine step_append_lies _ rfl (.tmp 41) (.tmp 43) 51 rfl w.heap.size 3 i0 (.int .i64 0) 1 8 Try.underlying51 hi0 hz0 hz1 hz2 rfl (by decide) _ _ _ (by rfl) hS.rO ⟨_, 0, none⟩ 1 1 [.int .i64 x] (by rfl) rfl (World.news_of_block (hS.tt _ (by simp)).1) (by simp [Value.oneCell']) (by decide) hmC hmD hS.lt4 _ rfl ?_
                        intro gN6 capN6 wN6 hown hgrow hat hlt
                        replace hS := hS.appO hown hgrow hat
                        clear hown hgrow hat hlt
                        try go_simp
                        refine hK _ _ ?_
                        clear hK K
                        refine wpAny_ready (rs := [8]) (by kernel_rfl) (by simp) ?_
                        refine AllReady.cons rfl (fun K hK => ?_) ?_
                        · skip
                          have c5 := hS.x5.cell
                          have f5 := hS.x5.frozen
                          go_simp
                          refine hK _ _ ?_
                          clear hK K
                          replace hS := hS.sto5 (.slice (some ⟨gN5, 0, none⟩) ((scan (bfs es v k) pre).length + 1 + 1) capN5)
                          clear c5 f5
                          generalize World.setCell _ _ _ = wS7 at hS ⊢
                          refine wpAny_ready (rs := [9]) (by kernel_rfl) (by simp) ?_
                          refine AllReady.cons rfl (fun K hK => ?_) ?_
                          · skip
                            have c4 := hS.x4.cell
                            have f4 := hS.x4.frozen
                            go_simp
                            refine hK _ _ ?_
                            clear hK K
                            replace hS := hS.sto4 (.slice (some ⟨gN6, 0, none⟩) ((scan (bfs es v k) pre).length + 1) capN6)
                            clear c4 f4
                            refine wpAny_done (by kernel_rfl) ?_ _
                            refine ⟨rfl, ?_⟩
                            gi_wp2
                            exact hend _ _ _ _ _ hS
                          exact AllReady.nil
                        exact AllReady.nil
                      exact AllReady.nil
                    exact AllReady.nil
                  exact AllReady.nil
                refine AllReady.cons rfl (fun K hK => ?_) ?_
                · skip
                  have c4 := hS.x4.cell
                  go_simp
                  refine hK _ _ ?_
                  clear hK K
                  clear c4
                  refine wpAny_ready (rs := [0]) (by kernel_rfl) (by simp) ?_
                  refine AllReady.cons rfl (fun K hK => ?_) ?_
                  · skip
                    have c5 := hS.x5.cell
                    go_simp
                    refine hK _ _ ?_
                    clear hK K
                    clear c5
                    refine wpAny_ready (rs := [3]) (by kernel_rfl) (by simp) ?_
                    refine AllReady.cons rfl (fun K hK => ?_) ?_
                    · skip
                      refine step_append_lies _ rfl (.tmp 37) (.tmp 39) 51 rfl w.heap.size 3 i0 (.int .i64 0) 1 8 Try.underlying51 hi0 hz0 hz1 hz2 rfl (by decide) _ _ _ (by rfl) hS.rA ⟨_, 0, none⟩ 1 1 [.int .i64 x] (by rfl) rfl (World.news_of_block (hS.tt _ (by simp)).1) (by simp [Value.oneCell']) (by decide) hmA hmB hS.lt4 _ rfl ?_
                      intro gN5 capN5 wN5 hown hgrow hat hlt
                      replace hS := hS.appA hown hgrow hat
                      simp only [List.length_cons] at hS
                      clear hown hgrow hat hlt
                      try go_simp
                      refine hK _ _ ?_
                      clear hK K
                      refine wpAny_ready (rs := [7]) (by kernel_rfl) (by simp) ?_
                      refine AllReady.cons rfl (fun K hK => ?_) ?_
                      · skip
                        refine step_append_lies _ rfl (.tmp 41) (.tmp 43) 51 rfl w.heap.size 3 i0 (.int .i64 0) 1 8 Try.underlying51 hi0 hz0 hz1 hz2 rfl (by decide) _ _ _ (by rfl) hS.rO ⟨_, 0, none⟩ 1 1 [.int .i64 x] (by rfl) rfl (World.news_of_block (hS.tt _ (by simp)).1) (by simp [Value.oneCell']) (by decide) hmC hmD hS.lt4 _ rfl ?_
                        intro gN6 capN6 wN6 hown hgrow hat hlt
                        replace hS := hS.appO hown hgrow hat
                        clear hown hgrow hat hlt
                        try go_simp
                        refine hK _ _ ?_
                        clear hK K
                        refine wpAny_ready (rs := [8]) (by kernel_rfl) (by simp) ?_
                        refine AllReady.cons rfl (fun K hK => ?_) ?_
                        · skip
                          have c5 := hS.x5.cell
                          have f5 := hS.x5.frozen
                          go_simp
                          refine hK _ _ ?_
                          clear hK K
                          replace hS := hS.sto5 (.slice (some ⟨gN5, 0, none⟩) ((scan (bfs es v k) pre).length + 1 + 1) capN5)
                          clear c5 f5
                          generalize World.setCell _ _ _ = wS7 at hS ⊢
                          refine wpAny_ready (rs := [9]) (by kernel_rfl) (by simp) ?_
                          refine AllReady.cons rfl (fun K hK => ?_) ?_
                          · skip
                            have c4 := hS.x4.cell
                            have f4 := hS.x4.frozen
                            go_simp
                            refine hK _ _ ?_
                            clear hK K
                            replace hS := hS.sto4 (.slice (some ⟨gN6, 0, none⟩) ((scan (bfs es v k) pre).length + 1) capN6)
                            clear c4 f4
                            refine wpAny_done (by kernel_rfl) ?_ _
                            refine ⟨rfl, ?_⟩
                            gi_wp2
                            exact hend _ _ _ _ _ hS
                          exact AllReady.nil
                        exact AllReady.nil
                      exact AllReady.nil
                    exact AllReady.nil
                  exact AllReady.nil
                exact AllReady.nil
              exact AllReady.nil
            refine AllReady.cons rfl (fun K hK => ?_) ?_
            · skip
              have c4 := hS.x4.cell
              go_simp
              refine hK _ _ ?_
              clear hK K
              clear c4
              refine wpAny_ready (rs := [0, 2, 6]) (by kernel_rfl) (by simp) ?_
              refine AllReady.cons rfl (fun K hK => ?_) ?_
              · skip
                have c5 := hS.x5.cell
                go_simp
                refine hK _ _ ?_
                clear hK K
                clear c5
                refine wpAny_ready (rs := [2, 6]) (by kernel_rfl) (by simp) ?_
                refine AllReady.cons rfl (fun K hK => ?_) ?_
                · skip
                  go_simp
                  refine hK _ _ ?_
                  clear hK K
                  replace hS := hS.alloc
                  refine wpAny_ready (rs := [3, 6]) (by kernel_rfl) (by simp) ?_
                  refine AllReady.cons rfl (fun K hK => ?_) ?_
                  · skip
                    refine step_append_lies _ rfl (.tmp 37) (.tmp 39) 51 rfl w.heap.size 3 i0 (.int .i64 0) 1 8 Try.underlying51 hi0 hz0 hz1 hz2 rfl (by decide) _ _ _ (by rfl) hS.rA ⟨_, 0, none⟩ 1 1 [.int .i64 x] (by rfl) rfl (World.news_of_block (hS.tt _ (by simp)).1) (by simp [Value.oneCell']) (by decide) hmA hmB hS.lt4 _ rfl ?_
                    intro gN4 capN4 wN4 hown hgrow hat hlt
                    replace hS := hS.appA hown hgrow hat
                    simp only [List.length_cons] at hS
                    clear hown hgrow hat hlt
                    try go_simp
                    refine hK _ _ ?_
                    clear hK K
                    refine wpAny_ready (rs := [6]) (by kernel_rfl) (by simp) ?_
                    refine AllReady.cons rfl (fun K hK => ?_) ?_
                    · skip
                      go_simp
                      refine hK _ _ ?_
                      clear hK K
                      replace hS := hS.alloc
                      refine wpAny_ready (rs := [7]) (by kernel_rfl) (by simp) ?_
                      refine AllReady.cons rfl (fun K hK => ?_) ?_
                      · skip
                        refine step_append_lies _ rfl (.tmp 41) (.tmp 43) 51 rfl w.heap.size 3 i0 (.int .i64 0) 1 8 Try.underlying51 hi0 hz0 hz1 hz2 rfl (by decide) _ _ _ (by rfl) hS.rO ⟨_, 0, none⟩ 1 1 [.int .i64 x] (by rfl) rfl (World.news_of_block (hS.tt _ (by simp)).1) (by simp [Value.oneCell']) (by decide) hmC hmD hS.lt4 _ rfl ?_
                        intro gN6 capN6 wN6 hown hgrow hat hlt
                        replace hS := hS.appO hown hgrow hat
                        clear hown hgrow hat hlt
                        try go_simp
                        refine hK _ _ ?_
                        clear hK K
                        refine wpAny_ready (rs := [8]) (by kernel_rfl) (by simp) ?_
                        refine AllReady.cons rfl (fun K hK => ?_) ?_
                        · skip
                          have c5 := hS.x5.cell
                          have f5 := hS.x5.frozen
                          go_simp
                          refine hK _ _ ?_
                          clear hK K
                          replace hS := hS.sto5 (.slice (some ⟨gN4, 0, none⟩) ((scan (bfs es v k) pre).length + 1 + 1) capN4)
                          clear c5 f5
                          generalize World.setCell _ _ _ = wS7 at hS ⊢
                          refine wpAny_ready (rs := [9]) (by kernel_rfl) (by simp) ?_
                          refine AllReady.cons rfl (fun K hK => ?_) ?_
                          · skip
                            have c4 := hS.x4.cell
                            have f4 := hS.x4.frozen
                            go_simp
                            refine hK _ _ ?_
                            clear hK K
                            replace hS := hS.sto4 (.slice (some ⟨gN6, 0, none⟩) ((scan (bfs es v k) pre).length + 1) capN6)
                            clear c4 f4
                            refine wpAny_done (by kernel_rfl) ?_ _
                            refine ⟨rfl, ?_⟩
                            gi_wp2
                            exact hend _ _ _ _ _ hS
                          exact AllReady.nil
                        exact AllReady.nil
                      exact AllReady.nil
                    exact AllReady.nil
                  refine AllReady.cons rfl (fun K hK => ?_) ?_
                  · skip
                    go_simp
                    refine hK _ _ ?_
                    clear hK K
                    replace hS := hS.alloc
                    refine wpAny_ready (rs := [3]) (by kernel_rfl) (by simp) ?_
                    refine AllReady.cons rfl (fun K hK => ?_) ?_
                    · skip
                      refine step_append_lies _ rfl (.tmp 37) (.tmp 39) 51 rfl w.heap.size 3 i0 (.int .i64 0) 1 8 Try.underlying51 hi0 hz0 hz1 hz2 rfl (by decide) _ _ _ (by rfl) hS.rA ⟨_, 0, none⟩ 1 1 [.int .i64 x] (by rfl) rfl (World.news_of_block (hS.tt _ (by simp)).1) (by simp [Value.oneCell']) (by decide) hmA hmB hS.lt4 _ rfl ?_
                      intro gN5 capN5 wN5 hown hgrow hat hlt
                      replace hS := hS.appA hown hgrow hat
                      simp only [List.length_cons] at hS
                      clear hown hgrow hat hlt
                      try go_simp
                      refine hK _ _ ?_
                      clear hK K
                      refine wpAny_ready (rs := [7]) (by kernel_rfl) (by simp) ?_
                      refine AllReady.cons rfl (fun K hK => ?_) ?_
                      · skip
                        refine step_append_lies _ rfl (.tmp 41) (.tmp 43) 51 rfl w.heap.size 3 i0 (.int .i64 0) 1 8 Try.underlying51 hi0 hz0 hz1 hz2 rfl (by decide) _ _ _ (by rfl) hS.rO ⟨_, 0, none⟩ 1 1 [.int .i64 x] (by rfl) rfl (World.news_of_block (hS.tt _ (by simp)).1) (by simp [Value.oneCell']) (by decide) hmC hmD hS.lt4 _ rfl ?_
                        intro gN6 capN6 wN6 hown hgrow hat hlt
                        replace hS := hS.appO hown hgrow hat
                        clear hown hgrow hat hlt
                        try go_simp
                        refine hK _ _ ?_
                        clear hK K
                        refine wpAny_ready (rs := [8]) (by kernel_rfl) (by simp) ?_
                        refine AllReady.cons rfl (fun K hK => ?_) ?_
                        · skip
                          have c5 := hS.x5.cell
                          have f5 := hS.x5.frozen
                          go_simp
                          refine hK _ _ ?_
                          clear hK K
                          replace hS := hS.sto5 (.slice (some ⟨gN5, 0, none⟩) ((scan (bfs es v k) pre).length + 1 + 1) capN5)
                          clear c5 f5
                          generalize World.setCell _ _ _ = wS7 at hS ⊢
                          refine wpAny_ready (rs := [9]) (by kernel_rfl) (by simp) ?_
                          refine AllReady.cons rfl (fun K hK => ?_) ?_
                          · skip
                            have c4 := hS.x4.cell
                            have f4 := hS.x4.frozen
                            go_simp
                            refine hK _ _ ?_
                            clear hK K
                            replace hS := hS.sto4 (.slice (some ⟨gN6, 0, none⟩) ((scan (bfs es v k) pre).length + 1) capN6)
                            clear c4 f4
                            refine wpAny_done (by kernel_rfl) ?_ _
                            refine ⟨rfl, ?_⟩
                            gi_wp2
                            exact hend _ _ _ _ _ hS
                          exact AllReady.nil
                        exact AllReady.nil
                      exact AllReady.nil
                    exact AllReady.nil
                  exact AllReady.nil
                refine AllReady.cons rfl (fun K hK => ?_) ?_
                · skip
                  go_simp
                  refine hK _ _ ?_
                  clear hK K
                  replace hS := hS.alloc
                  refine wpAny_ready (rs := [2]) (by kernel_rfl) (by simp) ?_
                  refine AllReady.cons rfl (fun K hK => ?_) ?_
                  · skip
                    go_simp
                    refine hK _ _ ?_
                    clear hK K
                    replace hS := hS.alloc
                    refine wpAny_ready (rs := [3]) (by kernel_rfl) (by simp) ?_
                    refine AllReady.cons rfl (fun K hK => ?_) ?_
                    · skip
                      refine step_append_lies _ rfl (.tmp 37) (.tmp 39) 51 rfl w.heap.size 3 i0 (.int .i64 0) 1 8 Try.underlying51 hi0 hz0 hz1 hz2 rfl (by decide) _ _ _ (by rfl) hS.rA ⟨_, 0, none⟩ 1 1 [.int .i64 x] (by rfl) rfl (World.news_of_block (hS.tt _ (by simp)).1) (by simp [Value.oneCell']) (by decide) hmA hmB hS.lt4 _ rfl ?_
                      intro gN5 capN5 wN5 hown hgrow hat hlt
                      replace hS := hS.appA hown hgrow hat
                      simp only [List.length_cons] at hS
                      clear hown hgrow hat hlt
                      try go_simp
                      refine hK _ _ ?_
                      clear hK K
                      refine wpAny_ready (rs := [7]) (by kernel_rfl) (by simp) ?_
                      refine AllReady.cons rfl (fun K hK => ?_) ?_
                      · skip
                        refine step_append_lies _ rfl (.tmp 41) (.tmp 43) 51 rfl w.heap.size 3 i0 (.int .i64 0) 1 8 Try.underlying51 hi0 hz0 hz1 hz2 rfl (by decide) _ _ _ (by rfl) hS.rO ⟨_, 0, none⟩ 1 1 [.int .i64 x] (by rfl) rfl (World.news_of_block (hS.tt _ (by simp)).1) (by simp [Value.oneCell']) (by decide) hmC hmD hS.lt4 _ rfl ?_
                        intro gN6 capN6 wN6 hown hgrow hat hlt
                        replace hS := hS.appO hown hgrow hat
                        clear hown hgrow hat hlt
                        try go_simp
                        refine hK _ _ ?_
                        clear hK K
                        refine wpAny_ready (rs := [8]) (by kernel_rfl) (by simp) ?_
                        refine AllReady.cons rfl (fun K hK => ?_) ?_
                        · skip
                          have c5 := hS.x5.cell
                          have f5 := hS.x5.frozen
                          go_simp
                          refine hK _ _ ?_
                          clear hK K
                          replace hS := hS.sto5 (.slice (some ⟨gN5, 0, none⟩) ((scan (bfs es v k) pre).length + 1 + 1) capN5)
                          clear c5 f5
                          generalize World.setCell _ _ _ = wS7 at hS ⊢
                          refine wpAny_ready (rs := [9]) (by kernel_rfl) (by simp) ?_
                          refine AllReady.cons rfl (fun K hK => ?_) ?_
                          · skip
                            have c4 := hS.x4.cell
                            have f4 := hS.x4.frozen
                            go_simp
                            refine hK _ _ ?_
                            clear hK K
                            replace hS := hS.sto4 (.slice (some ⟨gN6, 0, none⟩) ((scan (bfs es v k) pre).length + 1) capN6)
                            clear c4 f4
                            refine wpAny_done (by kernel_rfl) ?_ _
                            refine ⟨rfl, ?_⟩
                            gi_wp2
                            exact hend _ _ _ _ _ hS
                          exact AllReady.nil
                        exact AllReady.nil
                      exact AllReady.nil
                    exact AllReady.nil
                  exact AllReady.nil
                exact AllReady.nil
              refine AllReady.cons rfl (fun K hK => ?_) ?_
              · skip
                go_simp
                refine hK _ _ ?_
                clear hK K
                replace hS := hS.alloc
                refine wpAny_ready (rs := [0, 6]) (by kernel_rfl) (by simp) ?_
                refine AllReady.cons rfl (fun K hK => ?_) ?_
                · skip
                  have c5 := hS.x5.cell
                  go_simp
                  refine hK _ _ ?_
                  clear hK K
                  clear c5
                  refine wpAny_ready (rs := [3, 6]) (by kernel_rfl) (by simp) ?_
                  refine AllReady.cons rfl (fun K hK => ?_) ?_
                  · skip
                    refine step_append_lies _ rfl (.tmp 37) (.tmp 39) 51 rfl w.heap.size 3 i0 (.int .i64 0) 1 8 Try.underlying51 hi0 hz0 hz1 hz2 rfl (by decide) _ _ _ (by rfl) hS.rA ⟨_, 0, none⟩ 1 1 [.int .i64 x] (by rfl) rfl (World.news_of_block (hS.tt _ (by simp)).1) (by simp [Value.oneCell']) (by decide) hmA hmB hS.lt4 _ rfl ?_
                    intro gN4 capN4 wN4 hown hgrow hat hlt
                    replace hS := hS.appA hown hgrow hat
                    simp only [List.length_cons] at hS
                    clear hown hgrow hat hlt
                    try go_simp
                    refine hK _ _ ?_
                    clear hK K
                    refine wpAny_ready (rs := [6]) (by kernel_rfl) (by simp) ?_
                    refine AllReady.cons rfl (fun K hK => ?_) ?_
                    · skip
                      go_simp
                      refine hK _ _ ?_
                      clear hK K
                      replace hS := hS.alloc
                      refine wpAny_ready (rs := [7]) (by kernel_rfl) (by simp) ?_
                      refine AllReady.cons rfl (fun K hK => ?_) ?_
                      · skip
                        refine step_append_lies _ rfl (.tmp 41) (.tmp 43) 51 rfl w.heap.size 3 i0 (.int .i64 0) 1 8 Try.underlying51 hi0 hz0 hz1 hz2 rfl (by decide) _ _ _ (by rfl) hS.rO ⟨_, 0, none⟩ 1 1 [.int .i64 x] (by rfl) rfl (World.news_of_block (hS.tt _ (by simp)).1) (by simp [Value.oneCell']) (by decide) hmC hmD hS.lt4 _ rfl ?_
                        intro gN6 capN6 wN6 hown hgrow hat hlt
                        replace hS := hS.appO hown hgrow hat
                        clear hown hgrow hat hlt
                        try go_simp
                        refine hK _ _ ?_
                        clear hK K
                        refine wpAny_ready (rs := [8]) (by kernel_rfl) (by simp) ?_
                        refine AllReady.cons rfl (fun K hK => ?_) ?_
                        · skip
                          have c5 := hS.x5.cell
                          have f5 := hS.x5.frozen
                          go_simp
                          refine hK _ _ ?_
                          clear hK K
                          replace hS := hS.sto5 (.slice (some ⟨gN4, 0, none⟩) ((scan (bfs es v k) pre).length + 1 + 1) capN4)
                          clear c5 f5
                          generalize World.setCell _ _ _ = wS7 at hS ⊢
                          refine wpAny_ready (rs := [9]) (by kernel_rfl) (by simp) ?_
                          refine AllReady.cons rfl (fun K hK => ?_) ?_
                          · skip
                            have c4 := hS.x4.cell
                            have f4 := hS.x4.frozen
                            go_simp
                            refine hK _ _ ?_
                            clear hK K
                            replace hS := hS.sto4 (.slice (some ⟨gN6, 0, none⟩) ((scan (bfs es v k) pre).length + 1) capN6)
                            clear c4 f4
                            refine wpAny_done (by kernel_rfl) ?_ _
                            refine ⟨rfl, ?_⟩
                            gi_wp2
                            exact hend _ _ _ _ _ hS
                          exact AllReady.nil
                        exact AllReady.nil
                      exact AllReady.nil
                    exact AllReady.nil
                  refine AllReady.cons rfl (fun K hK => ?_) ?_
                  · skip
                    go_simp
                    refine hK _ _ ?_
                    clear hK K
                    replace hS := hS.alloc
                    refine wpAny_ready (rs := [3]) (by kernel_rfl) (by simp) ?_
                    refine AllReady.cons rfl (fun K hK => ?_) ?_
                    · skip
                      refine step_append_lies _ rfl (.tmp 37) (.tmp 39) 51 rfl w.heap.size 3 i0 (.int .i64 0) 1 8 Try.underlying51 hi0 hz0 hz1 hz2 rfl (by decide) _ _ _ (by rfl) hS.rA ⟨_, 0, none⟩ 1 1 [.int .i64 x] (by rfl) rfl (World.news_of_block (hS.tt _ (by simp)).1) (by simp [Value.oneCell']) (by decide) hmA hmB hS.lt4 _ rfl ?_
                      intro gN5 capN5 wN5 hown hgrow hat hlt
                      replace hS := hS.appA hown hgrow hat
                      simp only [List.length_cons] at hS
                      clear hown hgrow hat hlt
                      try go_simp
                      refine hK _ _ ?_
                      clear hK K
                      refine wpAny_ready (rs := [7]) (by kernel_rfl) (by simp) ?_
                      refine AllReady.cons rfl (fun K hK => ?_) ?_
                      · skip
                        refine step_append_lies _ rfl (.tmp 41) (.tmp 43) 51 rfl w.heap.size 3 i0 (.int .i64 0) 1 8 Try.underlying51 hi0 hz0 hz1 hz2 rfl (by decide) _ _ _ (by rfl) hS.rO ⟨_, 0, none⟩ 1 1 [.int .i64 x] (by rfl) rfl (World.news_of_block (hS.tt _ (by simp)).1) (by simp [Value.oneCell']) (by decide) hmC hmD hS.lt4 _ rfl ?_
                        intro gN6 capN6 wN6 hown hgrow hat hlt
                        replace hS := hS.appO hown hgrow hat
                        clear hown hgrow hat hlt
                        try go_simp
                        refine hK _ _ ?_
                        clear hK K
                        refine wpAny_ready (rs := [8]) (by kernel_rfl) (by simp) ?_
                        refine AllReady.cons rfl (fun K hK => ?_) ?_
                        · skip
                          have c5 := hS.x5.cell
                          have f5 := hS.x5.frozen
                          go_simp
                          refine hK _ _ ?_
                          clear hK K
                          replace hS := hS.sto5 (.slice (some ⟨gN5, 0, none⟩) ((scan (bfs es v k) pre).length + 1 + 1) capN5)
                          clear c5 f5
                          generalize World.setCell _ _ _ = wS7 at hS ⊢
                          refine wpAny_ready (rs := [9]) (by kernel_rfl) (by simp) ?_
                          refine AllReady.cons rfl (fun K hK => ?_) ?_
                          · skip
                            have c4 := hS.x4.cell
                            have f4 := hS.x4.frozen
                            go_simp
                            refine hK _ _ ?_
                            clear hK K
                            replace hS := hS.sto4 (.slice (some ⟨gN6, 0, none⟩) ((scan (bfs es v k) pre).length + 1) capN6)
                            clear c4 f4
                            refine wpAny_done (by kernel_rfl) ?_ _
                            refine ⟨rfl, ?_⟩
                            gi_wp2
                            exact hend _ _ _ _ _ hS
                          exact AllReady.nil
                        exact AllReady.nil
                      exact AllReady.nil
                    exact AllReady.nil
                  exact AllReady.nil
                refine AllReady.cons rfl (fun K hK => ?_) ?_
                · skip
                  go_simp
                  refine hK _ _ ?_
                  clear hK K
                  replace hS := hS.alloc
                  refine wpAny_ready (rs := [0]) (by kernel_rfl) (by simp) ?_
                  refine AllReady.cons rfl (fun K hK => ?_) ?_
                  · skip
                    have c5 := hS.x5.cell
                    go_simp
                    refine hK _ _ ?_
                    clear hK K
                    clear c5
                    refine wpAny_ready (rs := [3]) (by kernel_rfl) (by simp) ?_
                    refine AllReady.cons rfl (fun K hK => ?_) ?_
                    · skip
                      refine step_append_lies _ rfl (.tmp 37) (.tmp 39) 51 rfl w.heap.size 3 i0 (.int .i64 0) 1 8 Try.underlying51 hi0 hz0 hz1 hz2 rfl (by decide) _ _ _ (by rfl) hS.rA ⟨_, 0, none⟩ 1 1 [.int .i64 x] (by rfl) rfl (World.news_of_block (hS.tt _ (by simp)).1) (by simp [Value.oneCell']) (by decide) hmA hmB hS.lt4 _ rfl ?_
                      intro gN5 capN5 wN5 hown hgrow hat hlt
                      replace hS := hS.appA hown hgrow hat
                      simp only [List.length_cons] at hS
                      clear hown hgrow hat hlt
                      try go_simp
                      refine hK _ _ ?_
                      clear hK K
                      refine wpAny_ready (rs := [7]) (by kernel_rfl) (by simp) ?_
                      refine AllReady.cons rfl (fun K hK => ?_) ?_
                      · skip
                        refine step_append_lies _ rfl (.tmp 41) (.tmp 43) 51 rfl w.heap.size 3 i0 (.int .i64 0) 1 8 Try.underlying51 hi0 hz0 hz1 hz2 rfl (by decide) _ _ _ (by rfl) hS.rO ⟨_, 0, none⟩ 1 1 [.int .i64 x] (by rfl) rfl (World.news_of_block (hS.tt _ (by simp)).1) (by simp [Value.oneCell']) (by decide) hmC hmD hS.lt4 _ rfl ?_
                        intro gN6 capN6 wN6 hown hgrow hat hlt
                        replace hS := hS.appO hown hgrow hat
                        clear hown hgrow hat hlt
                        try go_simp
                        refine hK _ _ ?_
                        clear hK K
                        refine wpAny_ready (rs := [8]) (by kernel_rfl) (by simp) ?_
                        refine AllReady.cons rfl (fun K hK => ?_) ?_
                        · skip
                          have c5 := hS.x5.cell
                          have f5 := hS.x5.frozen
                          go_simp
                          refine hK _ _ ?_
                          clear hK K
                          replace hS := hS.sto5 (.slice (some ⟨gN5, 0, none⟩) ((scan (bfs es v k) pre).length + 1 + 1) capN5)
                          clear c5 f5
                          generalize World.setCell _ _ _ = wS7 at hS ⊢
                          refine wpAny_ready (rs := [9]) (by kernel_rfl) (by simp) ?_
                          refine AllReady.cons rfl (fun K hK => ?_) ?_
                          · skip
                            have c4 := hS.x4.cell
                            have f4 := hS.x4.frozen
                            go_simp
                            refine hK _ _ ?_
                            clear hK K
                            replace hS := hS.sto4 (.slice (some ⟨gN6, 0, none⟩) ((scan (bfs es v k) pre).length + 1) capN6)
                            clear c4 f4
                            refine wpAny_done (by kernel_rfl) ?_ _
                            refine ⟨rfl, ?_⟩
                            gi_wp2
                            exact hend _ _ _ _ _ hS
                          exact AllReady.nil
                        exact AllReady.nil
                      exact AllReady.nil
                    exact AllReady.nil
                  exact AllReady.nil
                exact AllReady.nil
              refine AllReady.cons rfl (fun K hK => ?_) ?_
              · skip
                go_simp
                refine hK _ _ ?_
                clear hK K
                replace hS := hS.alloc
                refine wpAny_ready (rs := [0, 2]) (by kernel_rfl) (by simp) ?_
                refine AllReady.cons rfl (fun K hK => ?_) ?_
                · skip
                  have c5 := hS.x5.cell
                  go_simp
                  refine hK _ _ ?_
                  clear hK K
                  clear c5
                  refine wpAny_ready (rs := [2]) (by kernel_rfl) (by simp) ?_
                  refine AllReady.cons rfl (fun K hK => ?_) ?_
                  · skip
                    go_simp
                    refine hK _ _ ?_
                    clear hK K
                    replace hS := hS.alloc
                    refine wpAny_ready (rs := [3]) (by kernel_rfl) (by simp) ?_
                    refine AllReady.cons rfl (fun K hK => ?_) ?_
                    · skip
                      refine step_append_lies _ rfl (.tmp 37) (.tmp 39) 51 rfl w.heap.size 3 i0 (.int .i64 0) 1 8 Try.underlying51 hi0 hz0 hz1 hz2 rfl (by decide) _ _ _ (by rfl) hS.rA ⟨_, 0, none⟩ 1 1 [.int .i64 x] (by rfl) rfl (World.news_of_block (hS.tt _ (by simp)).1) (by simp [Value.oneCell']) (by decide) hmA hmB hS.lt4 _ rfl ?_
                      intro gN5 capN5 wN5 hown hgrow hat hlt
                      replace hS := hS.appA hown hgrow hat
                      simp only [List.length_cons] at hS
                      clear hown hgrow hat hlt
                      try go_simp
                      refine hK _ _ ?_
                      clear hK K
                      refine wpAny_ready (rs := [7]) (by kernel_rfl) (by simp) ?_
                      refine AllReady.cons rfl (fun K hK => ?_) ?_
                      · skip
                        refine step_append_lies _ rfl (.tmp 41) (.tmp 43) 51 rfl w.heap.size 3 i0 (.int .i64 0) 1 8 Try.underlying51 hi0 hz0 hz1 hz2 rfl (by decide) _ _ _ (by rfl) hS.rO ⟨_, 0, none⟩ 1 1 [.int .i64 x] (by rfl) rfl (World.news_of_block (hS.tt _ (by simp)).1) (by simp [Value.oneCell']) (by decide) hmC hmD hS.lt4 _ rfl ?_
                        intro gN6 capN6 wN6 hown hgrow hat hlt
                        replace hS := hS.appO hown hgrow hat
                        clear hown hgrow hat hlt
                        try go_simp
                        refine hK _ _ ?_
                        clear hK K
                        refine wpAny_ready (rs := [8]) (by kernel_rfl) (by simp) ?_
                        refine AllReady.cons rfl (fun K hK => ?_) ?_
                        · skip
                          have c5 := hS.x5.cell
                          have f5 := hS.x5.frozen
                          go_simp
                          refine hK _ _ ?_
                          clear hK K
                          replace hS := hS.sto5 (.slice (some ⟨gN5, 0, none⟩) ((scan (bfs es v k) pre).length + 1 + 1) capN5)
                          clear c5 f5
                          generalize World.setCell _ _ _ = wS7 at hS ⊢
                          refine wpAny_ready (rs := [9]) (by kernel_rfl) (by simp) ?_
                          refine AllReady.cons rfl (fun K hK => ?_) ?_
                          · skip
                            have c4 := hS.x4.cell
                            have f4 := hS.x4.frozen
                            go_simp
                            refine hK _ _ ?_
                            clear hK K
                            replace hS := hS.sto4 (.slice (some ⟨gN6, 0, none⟩) ((scan (bfs es v k) pre).length + 1) capN6)
                            clear c4 f4
                            refine wpAny_done (by kernel_rfl) ?_ _
                            refine ⟨rfl, ?_⟩
                            gi_wp2
                            exact hend _ _ _ _ _ hS
                          exact AllReady.nil
                        exact AllReady.nil
                      exact AllReady.nil
                    exact AllReady.nil
                  exact AllReady.nil
                refine AllReady.cons rfl (fun K hK => ?_) ?_
                · skip
                  go_simp
                  refine hK _ _ ?_
                  clear hK K
                  replace hS := hS.alloc
                  refine wpAny_ready (rs := [0]) (by kernel_rfl) (by simp) ?_
                  refine AllReady.cons rfl (fun K hK => ?_) ?_
                  · skip
                    have c5 := hS.x5.cell
                    go_simp
                    refine hK _ _ ?_
                    clear hK K
                    clear c5
                    refine wpAny_ready (rs := [3]) (by kernel_rfl) (by simp) ?_
                    refine AllReady.cons rfl (fun K hK => ?_) ?_
                    · skip
                      refine step_append_lies _ rfl (.tmp 37) (.tmp 39) 51 rfl w.heap.size 3 i0 (.int .i64 0) 1 8 Try.underlying51 hi0 hz0 hz1 hz2 rfl (by decide) _ _ _ (by rfl) hS.rA ⟨_, 0, none⟩ 1 1 [.int .i64 x] (by rfl) rfl (World.news_of_block (hS.tt _ (by simp)).1) (by simp [Value.oneCell']) (by decide) hmA hmB hS.lt4 _ rfl ?_
                      intro gN5 capN5 wN5 hown hgrow hat hlt
                      replace hS := hS.appA hown hgrow hat
                      simp only [List.length_cons] at hS
                      clear hown hgrow hat hlt
                      try go_simp
                      refine hK _ _ ?_
                      clear hK K
                      refine wpAny_ready (rs := [7]) (by kernel_rfl) (by simp) ?_
                      refine AllReady.cons rfl (fun K hK => ?_) ?_
                      · skip
                        refine step_append_lies _ rfl (.tmp 41) (.tmp 43) 51 rfl w.heap.size 3 i0 (.int .i64 0) 1 8 Try.underlying51 hi0 hz0 hz1 hz2 rfl (by decide) _ _ _ (by rfl) hS.rO ⟨_, 0, none⟩ 1 1 [.int .i64 x] (by rfl) rfl (World.news_of_block (hS.tt _ (by simp)).1) (by simp [Value.oneCell']) (by decide) hmC hmD hS.lt4 _ rfl ?_
                        intro gN6 capN6 wN6 hown hgrow hat hlt
                        replace hS := hS.appO hown hgrow hat
                        clear hown hgrow hat hlt
                        try go_simp
                        refine hK _ _ ?_
                        clear hK K
                        refine wpAny_ready (rs := [8]) (by kernel_rfl) (by simp) ?_
                        refine AllReady.cons rfl (fun K hK => ?_) ?_
                        · skip
                          have c5 := hS.x5.cell
                          have f5 := hS.x5.frozen
                          go_simp
                          refine hK _ _ ?_
                          clear hK K
                          replace hS := hS.sto5 (.slice (some ⟨gN5, 0, none⟩) ((scan (bfs es v k) pre).length + 1 + 1) capN5)
                          clear c5 f5
                          generalize World.setCell _ _ _ = wS7 at hS ⊢
                          refine wpAny_ready (rs := [9]) (by kernel_rfl) (by simp) ?_
                          refine AllReady.cons rfl (fun K hK => ?_) ?_
                          · skip
                            have c4 := hS.x4.cell
                            have f4 := hS.x4.frozen
                            go_simp
                            refine hK _ _ ?_
                            clear hK K
                            replace hS := hS.sto4 (.slice (some ⟨gN6, 0, none⟩) ((scan (bfs es v k) pre).length + 1) capN6)
                            clear c4 f4
                            refine wpAny_done (by kernel_rfl) ?_ _
                            refine ⟨rfl, ?_⟩
                            gi_wp2
                            exact hend _ _ _ _ _ hS
                          exact AllReady.nil
                        exact AllReady.nil
                      exact AllReady.nil
                    exact AllReady.nil
                  exact AllReady.nil
                exact AllReady.nil
              exact AllReady.nil
            refine AllReady.cons rfl (fun K hK => ?_) ?_
            · skip
              go_simp
              refine hK _ _ ?_
              clear hK K
              replace hS := hS.alloc
              refine wpAny_ready (rs := [0, 2, 4]) (by kernel_rfl) (by simp) ?_
              refine AllReady.cons rfl (fun K hK => ?_) ?_
              · skip
                have c5 := hS.x5.cell
                go_simp
                refine hK _ _ ?_
                clear hK K
                clear c5
                refine wpAny_ready (rs := [2, 4]) (by kernel_rfl) (by simp) ?_
                refine AllReady.cons rfl (fun K hK => ?_) ?_
                · skip
                  go_simp
                  refine hK _ _ ?_
                  clear hK K
                  replace hS := hS.alloc
                  refine wpAny_ready (rs := [3, 4]) (by kernel_rfl) (by simp) ?_
                  refine AllReady.cons rfl (fun K hK => ?_) ?_
                  · skip
                    refine step_append_lies _ rfl (.tmp 37) (.tmp 39) 51 rfl w.heap.size 3 i0 (.int .i64 0) 1 8 Try.underlying51 hi0 hz0 hz1 hz2 rfl (by decide) _ _ _ (by rfl) hS.rA ⟨_, 0, none⟩ 1 1 [.int .i64 x] (by rfl) rfl (World.news_of_block (hS.tt _ (by simp)).1) (by simp [Value.oneCell']) (by decide) hmA hmB hS.lt4 _ rfl ?_
                    intro gN4 capN4 wN4 hown hgrow hat hlt
                    replace hS := hS.appA hown hgrow hat
                    simp only [List.length_cons] at hS
                    clear hown hgrow hat hlt
                    try go_simp
                    refine hK _ _ ?_
                    clear hK K
                    refine wpAny_ready (rs := [4]) (by kernel_rfl) (by simp) ?_
                    refine AllReady.cons rfl (fun K hK => ?_) ?_
                    · skip
                      have c4 := hS.x4.cell
                      go_simp
                      refine hK _ _ ?_
                      clear hK K
                      clear c4
                      refine wpAny_ready (rs := [7]) (by kernel_rfl) (by simp) ?_
                      refine AllReady.cons rfl (fun K hK => ?_) ?_
                      · skip
                        refine step_append_lies _ rfl (.tmp 41) (.tmp 43) 51 rfl w.heap.size 3 i0 (.int .i64 0) 1 8 Try.underlying51 hi0 hz0 hz1 hz2 rfl (by decide) _ _ _ (by rfl) hS.rO ⟨_, 0, none⟩ 1 1 [.int .i64 x] (by rfl) rfl (World.news_of_block (hS.tt _ (by simp)).1) (by simp [Value.oneCell']) (by decide) hmC hmD hS.lt4 _ rfl ?_
                        intro gN6 capN6 wN6 hown hgrow hat hlt
                        replace hS := hS.appO hown hgrow hat
                        clear hown hgrow hat hlt
                        try go_simp
                        refine hK _ _ ?_
                        clear hK K
                        refine wpAny_ready (rs := [8]) (by kernel_rfl) (by simp) ?_
                        refine AllReady.cons rfl (fun K hK => ?_) ?_
                        · skip
                          have c5 := hS.x5.cell
                          have f5 := hS.x5.frozen
                          go_simp
                          refine hK _ _ ?_
                          clear hK K
                          replace hS := hS.sto5 (.slice (some ⟨gN4, 0, none⟩) ((scan (bfs es v k) pre).length + 1 + 1) capN4)
                          clear c5 f5
                          generalize World.setCell _ _ _ = wS7 at hS ⊢
                          refine wpAny_ready (rs := [9]) (by kernel_rfl) (by simp) ?_
                          refine AllReady.cons rfl (fun K hK => ?_) ?_
                          · skip
                            have c4 := hS.x4.cell
                            have f4 := hS.x4.frozen
                            go_simp
                            refine hK _ _ ?_
                            clear hK K
                            replace hS := hS.sto4 (.slice (some ⟨gN6, 0, none⟩) ((scan (bfs es v k) pre).length + 1) capN6)
                            clear c4 f4
                            refine wpAny_done (by kernel_rfl) ?_ _
                            refine ⟨rfl, ?_⟩
                            gi_wp2
                            exact hend _ _ _ _ _ hS
                          exact AllReady.nil
                        exact AllReady.nil
                      exact AllReady.nil
                    exact AllReady.nil
                  refine AllReady.cons rfl (fun K hK => ?_) ?_
                  · skip
                    have c4 := hS.x4.cell
                    go_simp
                    refine hK _ _ ?_
                    clear hK K
                    clear c4
                    refine wpAny_ready (rs := [3]) (by kernel_rfl) (by simp) ?_
                    refine AllReady.cons rfl (fun K hK => ?_) ?_
                    · skip
                      refine step_append_lies _ rfl (.tmp 37) (.tmp 39) 51 rfl w.heap.size 3 i0 (.int .i64 0) 1 8 Try.underlying51 hi0 hz0 hz1 hz2 rfl (by decide) _ _ _ (by rfl) hS.rA ⟨_, 0, none⟩ 1 1 [.int .i64 x] (by rfl) rfl (World.news_of_block (hS.tt _ (by simp)).1) (by simp [Value.oneCell']) (by decide) hmA hmB hS.lt4 _ rfl ?_
                      intro gN5 capN5 wN5 hown hgrow hat hlt
                      replace hS := hS.appA hown hgrow hat
                      simp only [List.length_cons] at hS
                      clear hown hgrow hat hlt
                      try go_simp
                      refine hK _ _ ?_
                      clear hK K
                      refine wpAny_ready (rs := [7]) (by kernel_rfl) (by simp) ?_
                      refine AllReady.cons rfl (fun K hK => ?_) ?_
                      · skip
                        refine step_append_lies _ rfl (.tmp 41) (.tmp 43) 51 rfl w.heap.size 3 i0 (.int .i64 0) 1 8 Try.underlying51 hi0 hz0 hz1 hz2 rfl (by decide) _ _ _ (by rfl) hS.rO ⟨_, 0, none⟩ 1 1 [.int .i64 x] (by rfl) rfl (World.news_of_block (hS.tt _ (by simp)).1) (by simp [Value.oneCell']) (by decide) hmC hmD hS.lt4 _ rfl ?_
                        intro gN6 capN6 wN6 hown hgrow hat hlt
                        replace hS := hS.appO hown hgrow hat
                        clear hown hgrow hat hlt
                        try go_simp
                        refine hK _ _ ?_
                        clear hK K
                        refine wpAny_ready (rs := [8]) (by kernel_rfl) (by simp) ?_
                        refine AllReady.cons rfl (fun K hK => ?_) ?_
                        · skip
                          have c5 := hS.x5.cell
                          have f5 := hS.x5.frozen
                          go_simp
                          refine hK _ _ ?_
                          clear hK K
                          replace hS := hS.sto5 (.slice (some ⟨gN5, 0, none⟩) ((scan (bfs es v k) pre).length + 1 + 1) capN5)
                          clear c5 f5
                          generalize World.setCell _ _ _ = wS7 at hS ⊢
                          refine wpAny_ready (rs := [9]) (by kernel_rfl) (by simp) ?_
                          refine AllReady.cons rfl (fun K hK => ?_) ?_
                          · skip
                            have c4 := hS.x4.cell
                            have f4 := hS.x4.frozen
                            go_simp
                            refine hK _ _ ?_
                            clear hK K
                            replace hS := hS.sto4 (.slice (some ⟨gN6, 0, none⟩) ((scan (bfs es v k) pre).length + 1) capN6)
                            clear c4 f4
                            refine wpAny_done (by kernel_rfl) ?_ _
                            refine ⟨rfl, ?_⟩
                            gi_wp2
                            exact hend _ _ _ _ _ hS
                          exact AllReady.nil
                        exact AllReady.nil
                      exact AllReady.nil
                    exact AllReady.nil
                  exact AllReady.nil
                refine AllReady.cons rfl (fun K hK => ?_) ?_
                · skip
                  have c4 := hS.x4.cell
                  go_simp
                  refine hK _ _ ?_
                  clear hK K
                  clear c4
                  refine wpAny_ready (rs := [2]) (by kernel_rfl) (by simp) ?_
                  refine AllReady.cons rfl (fun K hK => ?_) ?_
                  · skip
                    go_simp
                    refine hK _ _ ?_
                    clear hK K
                    replace hS := hS.alloc
                    refine wpAny_ready (rs := [3]) (by kernel_rfl) (by simp) ?_
                    refine AllReady.cons rfl (fun K hK => ?_) ?_
                    · skip
                      refine step_append_lies _ rfl (.tmp 37) (.tmp 39) 51 rfl w.heap.size 3 i0 (.int .i64 0) 1 8 Try.underlying51 hi0 hz0 hz1 hz2 rfl (by decide) _ _ _ (by rfl) hS.rA ⟨_, 0, none⟩ 1 1 [.int .i64 x] (by rfl) rfl (World.news_of_block (hS.tt _ (by simp)).1) (by simp [Value.oneCell']) (by decide) hmA hmB hS.lt4 _ rfl ?_
                      intro gN5 capN5 wN5 hown hgrow hat hlt
                      replace hS := hS.appA hown hgrow hat
                      simp only [List.length_cons] at hS
                      clear hown hgrow hat hlt
                      try go_simp
                      refine hK _ _ ?_
                      clear hK K
                      refine wpAny_ready (rs := [7]) (by kernel_rfl) (by simp) ?_
                      refine AllReady.cons rfl (fun K hK => ?_) ?_
                      · skip
                        refine step_append_lies _ rfl (.tmp 41) (.tmp 43) 51 rfl w.heap.size 3 i0 (.int .i64 0) 1 8 Try.underlying51 hi0 hz0 hz1 hz2 rfl (by decide) _ _ _ (by rfl) hS.rO ⟨_, 0, none⟩ 1 1 [.int .i64 x] (by rfl) rfl (World.news_of_block (hS.tt _ (by simp)).1) (by simp [Value.oneCell']) (by decide) hmC hmD hS.lt4 _ rfl ?_
                        intro gN6 capN6 wN6 hown hgrow hat hlt
                        replace hS := hS.appO hown hgrow hat
                        clear hown hgrow hat hlt
                        try go_simp
                        refine hK _ _ ?_
                        clear hK K
                        refine wpAny_ready (rs := [8]) (by kernel_rfl) (by simp) ?_
                        refine AllReady.cons rfl (fun K hK => ?_) ?_
                        · skip
                          have c5 := hS.x5.cell
                          have f5 := hS.x5.frozen
                          go_simp
                          refine hK _ _ ?_
                          clear hK K
                          replace hS := hS.sto5 (.slice (some ⟨gN5, 0, none⟩) ((scan (bfs es v k) pre).length + 1 + 1) capN5)
                          clear c5 f5
                          generalize World.setCell _ _ _ = wS7 at hS ⊢
                          refine wpAny_ready (rs := [9]) (by kernel_rfl) (by simp) ?_
                          refine AllReady.cons rfl (fun K hK => ?_) ?_
                          · skip
                            have c4 := hS.x4.cell
                            have f4 := hS.x4.frozen
                            go_simp
                            refine hK _ _ ?_
                            clear hK K
                            replace hS := hS.sto4 (.slice (some ⟨gN6, 0, none⟩) ((scan (bfs es v k) pre).length + 1) capN6)
                            clear c4 f4
                            refine wpAny_done (by kernel_rfl) ?_ _
                            refine ⟨rfl, ?_⟩
                            gi_wp2
                            exact hend _ _ _ _ _ hS
                          exact AllReady.nil
                        exact AllReady.nil
                      exact AllReady.nil
                    exact AllReady.nil
                  exact AllReady.nil
                exact AllReady.nil
              refine AllReady.cons rfl (fun K hK => ?_) ?_
              · skip
                go_simp
                refine hK _ _ ?_
                clear hK K
                replace hS := hS.alloc
                refine wpAny_ready (rs := [0, 4]) (by kernel_rfl) (by simp) ?_
                refine AllReady.cons rfl (fun K hK => ?_) ?_
                · skip
                  have c5 := hS.x5.cell
                  go_simp
                  refine hK _ _ ?_
                  clear hK K
                  clear c5
                  refine wpAny_ready (rs := [3, 4]) (by kernel_rfl) (by simp) ?_
                  refine AllReady.cons rfl (fun K hK => ?_) ?_
                  · skip
                    refine step_append_lies _ rfl (.tmp 37) (.tmp 39) 51 rfl w.heap.size 3 i0 (.int .i64 0) 1 8 Try.underlying51 hi0 hz0 hz1 hz2 rfl (by decide) _ _ _ (by rfl) hS.rA ⟨_, 0, none⟩ 1 1 [.int .i64 x] (by rfl) rfl (World.news_of_block (hS.tt _ (by simp)).1) (by simp [Value.oneCell']) (by decide) hmA hmB hS.lt4 _ rfl ?_
                    intro gN4 capN4 wN4 hown hgrow hat hlt
                    replace hS := hS.appA hown hgrow hat
                    simp only [List.length_cons] at hS
                    clear hown hgrow hat hlt
                    try go_simp
                    refine hK _ _ ?_
                    clear hK K
                    refine wpAny_ready (rs := [4]) (by kernel_rfl) (by simp) ?_
                    refine AllReady.cons rfl (fun K hK => ?_) ?_
                    · skip
                      have c4 := hS.x4.cell
                      go_simp
                      refine hK _ _ ?_
                      clear hK K
                      clear c4
                      refine wpAny_ready (rs := [7]) (by kernel_rfl) (by simp) ?_
                      refine AllReady.cons rfl (fun K hK => ?_) ?_
                      · skip
                        refine step_append_lies _ rfl (.tmp 41) (.tmp 43) 51 rfl w.heap.size 3 i0 (.int .i64 0) 1 8 Try.underlying51 hi0 hz0 hz1 hz2 rfl (by decide) _ _ _ (by rfl) hS.rO ⟨_, 0, none⟩ 1 1 [.int .i64 x] (by rfl) rfl (World.news_of_block (hS.tt _ (by simp)).1) (by simp [Value.oneCell']) (by decide) hmC hmD hS.lt4 _ rfl ?_
                        intro gN6 capN6 wN6 hown hgrow hat hlt
                        replace hS := hS.appO hown hgrow hat
                        clear hown hgrow hat hlt
                        try go_simp
                        refine hK _ _ ?_
                        clear hK K
                        refine wpAny_ready (rs := [8]) (by kernel_rfl) (by simp) ?_
                        refine AllReady.cons rfl (fun K hK => ?_) ?_
                        · skip
                          have c5 := hS.x5.cell
                          have f5 := hS.x5.frozen
                          go_simp
                          refine hK _ _ ?_
                          clear hK K
                          replace hS := hS.sto5 (.slice (some ⟨gN4, 0, none⟩) ((scan (bfs es v k) pre).length + 1 + 1) capN4)
                          clear c5 f5
                          generalize World.setCell _ _ _ = wS7 at hS ⊢
                          refine wpAny_ready (rs := [9]) (by kernel_rfl) (by simp) ?_
                          refine AllReady.cons rfl (fun K hK => ?_) ?_
                          · skip
                            have c4 := hS.x4.cell
                            have f4 := hS.x4.frozen
                            go_simp
                            refine hK _ _ ?_
                            clear hK K
                            replace hS := hS.sto4 (.slice (some ⟨gN6, 0, none⟩) ((scan (bfs es v k) pre).length + 1) capN6)
                            clear c4 f4
                            refine wpAny_done (by kernel_rfl) ?_ _
                            refine ⟨rfl, ?_⟩
                            gi_wp2
                            exact hend _ _ _ _ _ hS
                          exact AllReady.nil
                        exact AllReady.nil
                      exact AllReady.nil
                    exact AllReady.nil
                  refine AllReady.cons rfl (fun K hK => ?_) ?_
                  · skip
                    have c4 := hS.x4.cell
                    go_simp
                    refine hK _ _ ?_
                    clear hK K
                    clear c4
                    refine wpAny_ready (rs := [3]) (by kernel_rfl) (by simp) ?_
                    refine AllReady.cons rfl (fun K hK => ?_) ?_
                    · skip
                      refine step_append_lies _ rfl (.tmp 37) (.tmp 39) 51 rfl w.heap.size 3 i0 (.int .i64 0) 1 8 Try.underlying51 hi0 hz0 hz1 hz2 rfl (by decide) _ _ _ (by rfl) hS.rA ⟨_, 0, none⟩ 1 1 [.int .i64 x] (by rfl) rfl (World.news_of_block (hS.tt _ (by simp)).1) (by simp [Value.oneCell']) (by decide) hmA hmB hS.lt4 _ rfl ?_
                      intro gN5 capN5 wN5 hown hgrow hat hlt
                      replace hS := hS.appA hown hgrow hat
                      simp only [List.length_cons] at hS
                      clear hown hgrow hat hlt
                      try go_simp
                      refine hK _ _ ?_
                      clear hK K
                      refine wpAny_ready (rs := [7]) (by kernel_rfl) (by simp) ?_
                      refine AllReady.cons rfl (fun K hK => ?_) ?_
                      · skip
                        refine step_append_lies _ rfl (.tmp 41) (.tmp 43) 51 rfl w.heap.size 3 i0 (.int .i64 0) 1 8 Try.underlying51 hi0 hz0 hz1 hz2 rfl (by decide) _ _ _ (by rfl) hS.rO ⟨_, 0, none⟩ 1 1 [.int .i64 x] (by rfl) rfl (World.news_of_block (hS.tt _ (by simp)).1) (by simp [Value.oneCell']) (by decide) hmC hmD hS.lt4 _ rfl ?_
                        intro gN6 capN6 wN6 hown hgrow hat hlt
                        replace hS := hS.appO hown hgrow hat
                        clear hown hgrow hat hlt
                        try go_simp
                        refine hK _ _ ?_
                        clear hK K
                        refine wpAny_ready (rs := [8]) (by kernel_rfl) (by simp) ?_
                        refine AllReady.cons rfl (fun K hK => ?_) ?_
                        · skip
                          have c5 := hS.x5.cell
                          have f5 := hS.x5.frozen
                          go_simp
                          refine hK _ _ ?_
                          clear hK K
                          replace hS := hS.sto5 (.slice (some ⟨gN5, 0, none⟩) ((scan (bfs es v k) pre).length + 1 + 1) capN5)
                          clear c5 f5
                          generalize World.setCell _ _ _ = wS7 at hS ⊢
                          refine wpAny_ready (rs := [9]) (by kernel_rfl) (by simp) ?_
                          refine AllReady.cons rfl (fun K hK => ?_) ?_
                          · skip
                            have c4 := hS.x4.cell
                            have f4 := hS.x4.frozen
                            go_simp
                            refine hK _ _ ?_
                            clear hK K
                            replace hS := hS.sto4 (.slice (some ⟨gN6, 0, none⟩) ((scan (bfs es v k) pre).length + 1) capN6)
                            clear c4 f4
                            refine wpAny_done (by kernel_rfl) ?_ _
                            refine ⟨rfl, ?_⟩
                            gi_wp2
                            exact hend _ _ _ _ _ hS
                          exact AllReady.nil
                        exact AllReady.nil
                      exact AllReady.nil
                    exact AllReady.nil
                  exact AllReady.nil
                refine AllReady.cons rfl (fun K hK => ?_) ?_
                · skip
                  have c4 := hS.x4.cell
                  go_simp
                  refine hK _ _ ?_
                  clear hK K
                  clear c4
                  refine wpAny_ready (rs := [0]) (by kernel_rfl) (by simp) ?_
                  refine AllReady.cons rfl (fun K hK => ?_) ?_
                  · skip
                    have c5 := hS.x5.cell
                    go_simp
                    refine hK _ _ ?_
                    clear hK K
                    clear c5
                    refine wpAny_ready (rs := [3]) (by kernel_rfl) (by simp) ?_
                    refine AllReady.cons rfl (fun K hK => ?_) ?_
                    · skip
                      refine step_append_lies _ rfl (.tmp 37) (.tmp 39) 51 rfl w.heap.size 3 i0 (.int .i64 0) 1 8 Try.underlying51 hi0 hz0 hz1 hz2 rfl (by decide) _ _ _ (by rfl) hS.rA ⟨_, 0, none⟩ 1 1 [.int .i64 x] (by rfl) rfl (World.news_of_block (hS.tt _ (by simp)).1) (by simp [Value.oneCell']) (by decide) hmA hmB hS.lt4 _ rfl ?_
                      intro gN5 capN5 wN5 hown hgrow hat hlt
                      replace hS := hS.appA hown hgrow hat
                      simp only [List.length_cons] at hS
                      clear hown hgrow hat hlt
                      try go_simp
                      refine hK _ _ ?_
                      clear hK K
                      refine wpAny_ready (rs := [7]) (by kernel_rfl) (by simp) ?_
                      refine AllReady.cons rfl (fun K hK => ?_) ?_
                      · skip
                        refine step_append_lies _ rfl (.tmp 41) (.tmp 43) 51 rfl w.heap.size 3 i0 (.int .i64 0) 1 8 Try.underlying51 hi0 hz0 hz1 hz2 rfl (by decide) _ _ _ (by rfl) hS.rO ⟨_, 0, none⟩ 1 1 [.int .i64 x] (by rfl) rfl (World.news_of_block (hS.tt _ (by simp)).1) (by simp [Value.oneCell']) (by decide) hmC hmD hS.lt4 _ rfl ?_
                        intro gN6 capN6 wN6 hown hgrow hat hlt
                        replace hS := hS.appO hown hgrow hat
                        clear hown hgrow hat hlt
                        try go_simp
                        refine hK _ _ ?_
                        clear hK K
                        refine wpAny_ready (rs := [8]) (by kernel_rfl) (by simp) ?_
                        refine AllReady.cons rfl (fun K hK => ?_) ?_
                        · skip
                          have c5 := hS.x5.cell
                          have f5 := hS.x5.frozen
                          go_simp
                          refine hK _ _ ?_
                          clear hK K
                          replace hS := hS.sto5 (.slice (some ⟨gN5, 0, none⟩) ((scan (bfs es v k) pre).length + 1 + 1) capN5)
                          clear c5 f5
                          generalize World.setCell _ _ _ = wS7 at hS ⊢
                          refine wpAny_ready (rs := [9]) (by kernel_rfl) (by simp) ?_
                          refine AllReady.cons rfl (fun K hK => ?_) ?_
                          · skip
                            have c4 := hS.x4.cell
                            have f4 := hS.x4.frozen
                            go_simp
                            refine hK _ _ ?_
                            clear hK K
                            replace hS := hS.sto4 (.slice (some ⟨gN6, 0, none⟩) ((scan (bfs es v k) pre).length + 1) capN6)
                            clear c4 f4
                            refine wpAny_done (by kernel_rfl) ?_ _
                            refine ⟨rfl, ?_⟩
                            gi_wp2
                            exact hend _ _ _ _ _ hS
                          exact AllReady.nil
                        exact AllReady.nil
                      exact AllReady.nil
                    exact AllReady.nil
                  exact AllReady.nil
                exact AllReady.nil
              refine AllReady.cons rfl (fun K hK => ?_) ?_
              · skip
                have c4 := hS.x4.cell
                go_simp
                refine hK _ _ ?_
                clear hK K
                clear c4
                refine wpAny_ready (rs := [0, 2]) (by kernel_rfl) (by simp) ?_
                refine AllReady.cons rfl (fun K hK => ?_) ?_
                · skip
                  have c5 := hS.x5.cell
                  go_simp
                  refine hK _ _ ?_
                  clear hK K
                  clear c5
                  refine wpAny_ready (rs := [2]) (by kernel_rfl) (by simp) ?_
                  refine AllReady.cons rfl (fun K hK => ?_) ?_
                  · skip
                    go_simp
                    refine hK _ _ ?_
                    clear hK K
                    replace hS := hS.alloc
                    refine wpAny_ready (rs := [3]) (by kernel_rfl) (by simp) ?_
                    refine AllReady.cons rfl (fun K hK => ?_) ?_
                    · skip
                      refine step_append_lies _ rfl (.tmp 37) (.tmp 39) 51 rfl w.heap.size 3 i0 (.int .i64 0) 1 8 Try.underlying51 hi0 hz0 hz1 hz2 rfl (by decide) _ _ _ (by rfl) hS.rA ⟨_, 0, none⟩ 1 1 [.int .i64 x] (by rfl) rfl (World.news_of_block (hS.tt _ (by simp)).1) (by simp [Value.oneCell']) (by decide) hmA hmB hS.lt4 _ rfl ?_
                      intro gN5 capN5 wN5 hown hgrow hat hlt
                      replace hS := hS.appA hown hgrow hat
                      simp only [List.length_cons] at hS
                      clear hown hgrow hat hlt
                      try go_simp
                      refine hK _ _ ?_
                      clear hK K
                      refine wpAny_ready (rs := [7]) (by kernel_rfl) (by simp) ?_
                      refine AllReady.cons rfl (fun K hK => ?_) ?_
                      · skip
                        refine step_append_lies _ rfl (.tmp 41) (.tmp 43) 51 rfl w.heap.size 3 i0 (.int .i64 0) 1 8 Try.underlying51 hi0 hz0 hz1 hz2 rfl (by decide) _ _ _ (by rfl) hS.rO ⟨_, 0, none⟩ 1 1 [.int .i64 x] (by rfl) rfl (World.news_of_block (hS.tt _ (by simp)).1) (by simp [Value.oneCell']) (by decide) hmC hmD hS.lt4 _ rfl ?_
                        intro gN6 capN6 wN6 hown hgrow hat hlt
                        replace hS := hS.appO hown hgrow hat
                        clear hown hgrow hat hlt
                        try go_simp
                        refine hK _ _ ?_
                        clear hK K
                        refine wpAny_ready (rs := [8]) (by kernel_rfl) (by simp) ?_
                        refine AllReady.cons rfl (fun K hK => ?_) ?_
                        · skip
                          have c5 := hS.x5.cell
                          have f5 := hS.x5.frozen
                          go_simp
                          refine hK _ _ ?_
                          clear hK K
                          replace hS := hS.sto5 (.slice (some ⟨gN5, 0, none⟩) ((scan (bfs es v k) pre).length + 1 + 1) capN5)
                          clear c5 f5
                          generalize World.setCell _ _ _ = wS7 at hS ⊢
                          refine wpAny_ready (rs := [9]) (by kernel_rfl) (by simp) ?_
                          refine AllReady.cons rfl (fun K hK => ?_) ?_
                          · skip
                            have c4 := hS.x4.cell
                            have f4 := hS.x4.frozen
                            go_simp
                            refine hK _ _ ?_
                            clear hK K
                            replace hS := hS.sto4 (.slice (some ⟨gN6, 0, none⟩) ((scan (bfs es v k) pre).length + 1) capN6)
                            clear c4 f4
                            refine wpAny_done (by kernel_rfl) ?_ _
                            refine ⟨rfl, ?_⟩
                            gi_wp2
                            exact hend _ _ _ _ _ hS
                          exact AllReady.nil
                        exact AllReady.nil
                      exact AllReady.nil
                    exact AllReady.nil
                  exact AllReady.nil
                refine AllReady.cons rfl (fun K hK => ?_) ?_
                · skip
                  go_simp
                  refine hK _ _ ?_
                  clear hK K
                  replace hS := hS.alloc
                  refine wpAny_ready (rs := [0]) (by kernel_rfl) (by simp) ?_
                  refine AllReady.cons rfl (fun K hK => ?_) ?_
                  · skip
                    have c5 := hS.x5.cell
                    go_simp
                    refine hK _ _ ?_
                    clear hK K
                    clear c5
                    refine wpAny_ready (rs := [3]) (by kernel_rfl) (by simp) ?_
                    refine AllReady.cons rfl (fun K hK => ?_) ?_
                    · skip
                      refine step_append_lies _ rfl (.tmp 37) (.tmp 39) 51 rfl w.heap.size 3 i0 (.int .i64 0) 1 8 Try.underlying51 hi0 hz0 hz1 hz2 rfl (by decide) _ _ _ (by rfl) hS.rA ⟨_, 0, none⟩ 1 1 [.int .i64 x] (by rfl) rfl (World.news_of_block (hS.tt _ (by simp)).1) (by simp [Value.oneCell']) (by decide) hmA hmB hS.lt4 _ rfl ?_
                      intro gN5 capN5 wN5 hown hgrow hat hlt
                      replace hS := hS.appA hown hgrow hat
                      simp only [List.length_cons] at hS
                      clear hown hgrow hat hlt
                      try go_simp
                      refine hK _ _ ?_
                      clear hK K
                      refine wpAny_ready (rs := [7]) (by kernel_rfl) (by simp) ?_
                      refine AllReady.cons rfl (fun K hK => ?_) ?_
                      · skip
                        refine step_append_lies _ rfl (.tmp 41) (.tmp 43) 51 rfl w.heap.size 3 i0 (.int .i64 0) 1 8 Try.underlying51 hi0 hz0 hz1 hz2 rfl (by decide) _ _ _ (by rfl) hS.rO ⟨_, 0, none⟩ 1 1 [.int .i64 x] (by rfl) rfl (World.news_of_block (hS.tt _ (by simp)).1) (by simp [Value.oneCell']) (by decide) hmC hmD hS.lt4 _ rfl ?_
                        intro gN6 capN6 wN6 hown hgrow hat hlt
                        replace hS := hS.appO hown hgrow hat
                        clear hown hgrow hat hlt
                        try go_simp
                        refine hK _ _ ?_
                        clear hK K
                        refine wpAny_ready (rs := [8]) (by kernel_rfl) (by simp) ?_
                        refine AllReady.cons rfl (fun K hK => ?_) ?_
                        · skip
                          have c5 := hS.x5.cell
                          have f5 := hS.x5.frozen
                          go_simp
                          refine hK _ _ ?_
                          clear hK K
                          replace hS := hS.sto5 (.slice (some ⟨gN5, 0, none⟩) ((scan (bfs es v k) pre).length + 1 + 1) capN5)
                          clear c5 f5
                          generalize World.setCell _ _ _ = wS7 at hS ⊢
                          refine wpAny_ready (rs := [9]) (by kernel_rfl) (by simp) ?_
                          refine AllReady.cons rfl (fun K hK => ?_) ?_
                          · skip
                            have c4 := hS.x4.cell
                            have f4 := hS.x4.frozen
                            go_simp
                            refine hK _ _ ?_
                            clear hK K
                            replace hS := hS.sto4 (.slice (some ⟨gN6, 0, none⟩) ((scan (bfs es v k) pre).length + 1) capN6)
                            clear c4 f4
                            refine wpAny_done (by kernel_rfl) ?_ _
                            refine ⟨rfl, ?_⟩
                            gi_wp2
                            exact hend _ _ _ _ _ hS
                          exact AllReady.nil
                        exact AllReady.nil
                      exact AllReady.nil
                    exact AllReady.nil
                  exact AllReady.nil
                exact AllReady.nil
              exact AllReady.nil
            exact AllReady.nil
      case done =>
        rintro D ys W hDl rfl ⟨⟨vA, vO, hB2, fA, fO⟩, hf2, hW2, hK2⟩ hK
        have hn4 := four_len _ (bfs_ok es v hto (k + 1))
        have hD2 := hD.cons (hK1.trans hK2) hnw (by omega) hK
        rw [← hnext] at hB2
        go_wp2
        rw [Exit.noGoto_normal]
        go_wp2
        exact ⟨⟨k + 1, _, _, _, _, _, _, _, _, _, _, _, _, _, _, _, rfl, by have := scan_ge (bfs es v k) (outs cur es); rw [← hnext] at this; omega, hB2, hW2, hD2⟩, by simp [intOf]; omega⟩
      case stop =>
        rintro D c pre W _ _ h _
        exact h.elim
    · have hd : decide (k < (bfs es v k).length + 1) = false := decide_eq_false hlt2
      obtain ⟨A, nO, cO, rfl⟩ := row_form hB.rO
      go_wp2_with (go_at_call 46; refine (sort_any (bfs es v k) hB.rO (by omega)).mono ?_; rintro e W2 ⟨rfl, hS, hg⟩; have b4 : Boxed W2 w.heap.size 51 (.slice A nO cO) := hB.x4.kept hg (hB.x4.not_row (by decide) hB.rO); have c42 := b4.cell; have f42 := b4.frozen)
      have hbB : Below w.heap.size w (W2.setCell ⟨w.heap.size, 0, none⟩ (.slice A nO cO)) := (hW.grown hg hW.size fun j e => (own_cells hB.rO e).1).setCell (p := ⟨w.heap.size, 0, none⟩) (Nat.le_refl _) _
      have hkk : KeepsFrom 0 wr (W2.setCell ⟨w.heap.size, 0, none⟩ (.slice A nO cO)) := ((KeepsOthers.of_grownBy hg fun j o e ho => (own_cells hB.rO e).2.2 o ho).trans (KeepsOthers.setCell _ _ _)).from 0
      refine leaves_all (n₀ := w.heap.size) (fun W => Boxed W w.heap.size 51 (.slice A nO cO) ∧ W.ownsRow w.heap.size 3 1 (.slice A nO cO) (bfs es v k).length ((risen (bfs es v k)).map (Value.int .i64)) ∧ Below w.heap.size w W) ?_ ?_ ds _ (hD.keep hkk) ⟨b4.set _, hS.kept (grownBy_setCell' _ _ _) (.inr (b4.not_row (by decide) hS).symm), hbB⟩
      · rintro X D o o' ⟨x1, x2, x3⟩ hX ho hDn
        exact ⟨boxed_kept x1 (grownBy_putObj' X D o') (fun r e => by cases e; exact ⟨o, hX, ho⟩), ownsRow_putObj x2 o' hX ho, x3.grown (grownBy_putObj' X D o') x3.size (fun j e => by cases e; exact hDn)⟩
      · rintro X ⟨x1, x2, x3⟩
        have hx := x1.cell
        refine ⟨.slice A nO cO, ?_, _, k, rfl, by omega, x2, x3⟩
        simp [results, Try.f39, go_sem, hx]
end Go.Proofs.Ytlaakcgipecldaa
