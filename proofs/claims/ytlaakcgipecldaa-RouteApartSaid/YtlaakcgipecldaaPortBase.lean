/- Rows of messages, and what a port has: contracts of the two boxes of package port. -/
import Derived.Test.YtlaakcgipecldaaProg
import Derived.Test.YtlaakcgipecldaaOwn
import Derived.ArgAppend
import Derived.Deep.QuietTactic
import Derived.BigQuiet
import Derived.BigRegion
import Derived.StillTailTactics
namespace Go.Proofs.Ytlaakcgipecldaa
set_option linter.all false
open Go.RowKit

/-- A row of messages, in a block out of F. -/
def QRow (w : World) (F : Nat → Prop) (v : Value) (L : List ByteArray) : Prop :=
  (v = .slice none 0 0 ∧ L = []) ∨ ∃ g off cap cur, v = .slice (some ⟨g, off, none⟩) L.length cap ∧ F g ∧ Blk w g 9 cur ∧ L.length ≤ cap ∧ off + cap ≤ cur.size ∧ ∀ i s, L[i]? = some s → cur[off + i]? = some (.string s)

theorem upd_sg {g i : Nat} {w w1 : World} (h : Upd (· = g) w w1) (u : Value) : Upd (· = g) w (w1.setCell ⟨g, i, none⟩ u) := h.setCell (p := ⟨g, i, none⟩) (fun _ => rfl) u

theorem QRow.upd {S F : Nat → Prop} {w w' : World} {v : Value} {L : List ByteArray} (h : QRow w F v L) (hu : Upd S w w') (hs : ∀ k, F k → ¬ S k) : QRow w' F v L := by
  rcases h with h | ⟨g, off, cap, cur, h1, h2, h3, h4⟩
  · exact Or.inl h
  · exact Or.inr ⟨g, off, cap, cur, h1, h2, h3.upd hu (hs g h2), h4⟩
theorem QRow.mono {F F' : Nat → Prop} {w : World} {v : Value} {L : List ByteArray} (h : QRow w F v L) (hs : ∀ k, F k → F' k) : QRow w F' v L := by
  rcases h with h | ⟨g, off, cap, cur, h1, h2, h3⟩
  · exact Or.inl h
  · exact Or.inr ⟨g, off, cap, cur, h1, hs g h2, h3⟩
theorem own_form {w : World} {base : Nat} {e : TypeId} {size n : Nat} {v : Value} {xs : List Value} (h : w.ownsRow base e size v n xs) : ∃ A c, v = .slice A n c := by
  rcases h.2 with ⟨h1, h2⟩ | ⟨g, cap, _, hv, _⟩
  · exact ⟨none, 0, by rw [h1, h2]⟩
  · exact ⟨_, _, hv⟩
theorem qrow_own {w : World} {base : Nat} {v : Value} {L : List ByteArray} (h : w.ownsRow base 9 1 v L.length (L.map Value.string)) : QRow w (fun k => base ≤ k ∧ k < w.heap.size) v L := by
  rcases h.2 with ⟨h1, h2⟩ | ⟨g, cap, cur, hv, hb, hg, hc, _, hs, ht⟩
  · exact Or.inl ⟨h1, List.eq_nil_of_length_eq_zero h2⟩
  · have hblk : Blk w g 9 cur := hg
    refine Or.inr ⟨g, 0, cap, cur, hv, ⟨hb, hblk.lt⟩, hblk, hc, by omega, fun i s hi => ?_⟩
    have hlt : i < L.length := by
      rcases Nat.lt_or_ge i L.length with h | h
      · exact h
      · rw [List.getElem?_eq_none h] at hi; cases hi
    have : (L.map Value.string)[i]? = some (.string s) := by rw [List.getElem?_map, hi]; rfl
    rw [← ht, List.getElem?_take, if_pos (by omega)] at this
    rw [Nat.zero_add]
    simpa using this
theorem QRow.far {F : Nat → Prop} {w : World} {v : Value} {L : List ByteArray} (h : QRow w F v L) {p : Addr} (hp : ¬ F p.block) (u : Value) : QRow (w.setCell p u) F v L := by
  rcases h with h | ⟨g, off, cap, cur, h1, h2, h3, h4⟩
  · exact Or.inl h
  · exact Or.inr ⟨g, off, cap, cur, h1, h2, h3.far (fun e => hp (e ▸ h2)) _, h4⟩
theorem QRow.len {F : Nat → Prop} {w : World} {v : Value} {L : List ByteArray} (h : QRow w F v L) : ∃ a c, v = .slice a L.length c := by
  rcases h with ⟨h1, h2⟩ | ⟨g, off, cap, cur, h1, _⟩
  · exact ⟨none, 0, by rw [h1, h2]; rfl⟩
  · exact ⟨_, _, h1⟩

set_option maxHeartbeats 1000000 in
theorem sput_any {w : World} {gs : Nat} {s0 s : ByteArray} {a0 age t : Int} {b0 : Bool} (h : Blk w gs 70 #[.string s0, .int .i64 a0, .int .i64 age, .bool b0]) :
    Calls Try.prog 85 #[.pointer (some ⟨gs, 0, none⟩), .string s, .int .i64 t] w fun r w' => r = .returned (.int .i64 0) ∧ Blk w' gs 70 #[.string s, .int .i64 t, .int .i64 age, .bool true] ∧ Upd (· = gs) w w' := by
  have c0 := h.cell 0
  have c1 := h.cell 1
  have c3 := h.cell 3
  have f0 := h.frozen 0
  have f1 := h.frozen 1
  have f3 := h.frozen 3
  simp at c0 c1 c3
  have H := Lib.hid h
  clear h
  go_enter Try.func85, Try.ntmps85
  go_wp2_with fail
  go_ret
  refine ⟨rfl, ?_, ?_⟩
  · simpa using ((H.out.set_ 0 (.string s)).set_ 1 (.int .i64 t)).set_ 3 (.bool true)
  · exact (upd_sg (upd_sg (upd_sg (Upd.refl _ _) _) _) _)

set_option maxHeartbeats 1000000 in
theorem sget_any {w : World} {gs : Nat} {s : ByteArray} {a age t : Int} {b : Bool} (h : Blk w gs 70 #[.string s, .int .i64 a, .int .i64 age, .bool b]) (ha : 0 ≤ a ∧ a ≤ 1099511627776) (ht : 0 ≤ t ∧ t ≤ 1099511627776) :
    Calls Try.prog 83 #[.pointer (some ⟨gs, 0, none⟩), .int .i64 t] w fun r w' => r = .returned (.tuple #[.string s, .bool (decide (t - a ≤ age))]) ∧ Below w.heap.size w w' := by
  have c0 := h.cell 0
  have c1 := h.cell 1
  have c2 := h.cell 2
  simp at c0 c1 c2
  clear h
  obtain ⟨a1, a2⟩ := ha
  obtain ⟨t1, t2⟩ := ht
  have w1 : IntKind.i64.wrap (t - a) = t - a := IntWalk.i64_in _ (by omega)
  go_enter Try.func83, Try.ntmps83
  go_wp2_with fail
  go_quiet (fail)
  go_wp2_with fail
  go_ret2
  exact ⟨rfl, belowN (Below.refl _ _) _⟩

theorem smany_any {w : World} {gs : Nat} {s : ByteArray} {a age : Int} {b : Bool} (h : Blk w gs 70 #[.string s, .int .i64 a, .int .i64 age, .bool b]) :
    Calls Try.prog 84 #[.pointer (some ⟨gs, 0, none⟩)] w fun r w' => r = .returned (.int .i64 (if b then 1 else 0)) ∧ w = w' := by
  have c3 := h.cell 3
  simp at c3
  clear h
  cases b
  all_goals
    go_enter Try.func84, Try.ntmps84
    go_wp2_with fail
    go_ret
    exact ⟨rfl, rfl⟩

theorem qmany_any {w : World} {F : Nat → Prop} {gq : Nat} {v : Value} {L : List ByteArray} {d : Int} (h : Blk w gq 73 #[v, .int .i64 d]) (hq : QRow w F v L) (hl : L.length ≤ 4) :
    Calls Try.prog 87 #[.pointer (some ⟨gq, 0, none⟩)] w fun r w' => r = .returned (.int .i64 L.length) ∧ w = w' := by
  obtain ⟨a, c, rfl⟩ := hq.len
  have c0 := h.cell 0
  simp at c0
  clear h hq
  go_enter Try.func87, Try.ntmps87
  go_wp2_with fail
  go_ret
  exact ⟨rfl, rfl⟩

theorem infoStr : (Try.prog.info? 9).map (fun i => (i.zero, i.size, i.bytes)) = some (some (.string ⟨#[]⟩), 1, 16) := by kernel_rfl

set_option maxRecDepth 100000 in
set_option maxHeartbeats 2000000 in
theorem qput_full {w : World} {F : Nat → Prop} {gq : Nat} {v : Value} {L : List ByteArray} {d : Int} {s : ByteArray} (t : Value) (h : Blk w gq 73 #[v, .int .i64 d]) (hq : QRow w F v L) (hl : L.length ≤ 4) (he : (L.length : Int) = d) :
    Calls Try.prog 88 #[.pointer (some ⟨gq, 0, none⟩), .string s, t] w fun r w' => r = .returned (.int .i64 7) ∧ Below w.heap.size w w' := by
  obtain ⟨a, c, hv⟩ := hq.len
  subst hv
  have c0 := h.cell 0
  have c1 := h.cell 1
  simp at c0 c1
  have hb : ((L.length : Int) == d) = true := by simp [he]
  clear h hq he
  go_enter Try.func88, Try.ntmps88
  go_wp2_with fail
  go_quiet (fail)
  go_wp2_with fail
  go_ret
  exact ⟨rfl, belowN (Below.refl _ _) _⟩

set_option maxRecDepth 100000 in
set_option maxHeartbeats 2000000 in
theorem qput_room {w : World} {F : Nat → Prop} {gq : Nat} {v : Value} {L : List ByteArray} {d : Int} {s : ByteArray} (t : Value) (h : Blk w gq 73 #[v, .int .i64 d]) (hq : QRow w F v L) (hl : L.length ≤ 4) (he : (L.length : Int) ≠ d) :
    Calls Try.prog 88 #[.pointer (some ⟨gq, 0, none⟩), .string s, t] w fun r w' =>
      r = .returned (.int .i64 0) ∧ (∃ v', Blk w' gq 73 #[v', .int .i64 d] ∧ QRow w' (fun k => F k ∨ (w.heap.size ≤ k ∧ k < w'.heap.size)) v' (L ++ [s])) ∧ Upd (fun k => k = gq ∨ F k) w w' := by
  have H := Lib.hid h
  have HQ := Lib.hid hq
  obtain ⟨a, c, hv⟩ := hq.len
  subst hv
  have c0 := h.cell 0
  have c1 := h.cell 1
  have f0 := h.frozen 0
  simp at c0 c1
  have hsz := h.lt
  have hb : ((L.length : Int) == d) = false := by simpa using he
  clear h he
  obtain ⟨i0, hi0, hz0, hz1, hz2⟩ := info_parts infoStr
  have HB1 : Hid (L.length + 1 ≤ maxLen) := (by simp only [maxLen]; omega : L.length + 1 ≤ maxLen)
  have HB2 : Hid ((L.length + 1) * 16 ≤ 140737488355328) := (by omega : (L.length + 1) * 16 ≤ 140737488355328)
  rcases hq with ⟨h1, h2⟩ | ⟨g, off, cap, cur, h1, h2, h3, h4, h5, h6⟩
  · subst h2
    simp at h1
    obtain ⟨rfl, rfl⟩ := h1
    have hb0 : ((0 : Int) == d) = false := by simpa using hb
    simp at c0
    clear hb
    go_enter Try.func88, Try.ntmps88
    go_wp2_with fail
    go_quiet (fail)
    have hown : World.ownsRow ((w.drewN nq).alloc (.cells #[.string s] 9)) w.heap.size 9 1 (.slice none 0 0) 0 [] := World.ownsRow_nil _ _ _ _
    go_wp2_with (at_builtin
                 refine wpList_append_lies _ (by rfl) _ _ 22 (by rfl) w.heap.size 9 i0 (.string ⟨#[]⟩) 1 16 Try.underlying22 hi0 hz0 hz1 hz2 (by simp [Value.cells]) (by decide) (.slice none 0 0) 0 [] (by rfl) hown ⟨w.heap.size, 0, none⟩ 1 1 [.string s] (by rfl) (by rfl) (World.news_of_block (cs := #[.string s]) (t := 9) (fr := (0, 0)) (heap_alloc_new (w.drewN nq) _)) (by simp [Value.oneCell']) (by decide) (by decide) (by decide) (by simp) (w.heap.size + 1) (by simp) ?_
                 intro g' cap' w1 hown1 hgrow hat hlt1
                 have y0 := ((H.out.drewN nq).alloc (.cells #[.string s] 9)).lt
                 have y1 : Blk w1 gq 73 #[.slice none 0 0, .int .i64 d] := (hgrow.block _ y0 (by simp [Value.ownBlock])).trans ((H.out.drewN nq).alloc (.cells #[.string s] 9))
                 have y2 := y1.cell 0
                 have y3 := y1.frozen 0
                 simp at y2
                 clear c0 c1 f0)
    go_ret
    refine ⟨rfl, ⟨.slice (some ⟨g', 0, none⟩) 1 cap', ?_, ?_⟩, ?_⟩
    · simpa using y1.set_ 0 (.slice (some ⟨g', 0, none⟩) 1 cap')
    · have hq := qrow_own (L := [s]) (by simpa using hown1)
      refine (hq.far (p := ⟨gq, 0, none⟩) (fun h => by have := h.1; first | (simp at this; omega) | (simp only at this; omega)) _).mono ?_
      intro k hk
      exact Or.inr (by simpa using hk)
    · refine Upd.setCell ?_ (p := ⟨gq, 0, none⟩) (fun _ => Or.inl rfl) _
      exact ⟨hgrow.os, hgrow.tape, hgrow.output, by have := hgrow.size; simp at this; omega, fun i hi _ => (hgrow.block i (by simp; omega) (by simp [Value.ownBlock])).trans (Below.heap_alloc (w.drewN nq) _ i (by simpa using hi))⟩
  · cases h1
    have hs6 := Lib.hid h6
    have HF := Lib.hid (And.intro h2 h3)
    clear h6
    have hne : gq ≠ g := H.out.ne_ h3 (by decide)
    by_cases hroom : L.length + 1 ≤ c
    · go_enter Try.func88, Try.ntmps88
      go_wp2_with fail
      go_quiet (fail)
      have X1 := Lib.hid ((h3.drewN nq).alloc (.cells #[.string s] 9))
      have X2 := Lib.hid ((H.out.drewN nq).alloc (.cells #[.string s] 9))
      have HOLDS : Hid (∀ j u, (L.map Value.string)[j]? = some u → ((w.drewN nq).alloc (.cells #[.string s] 9)).cell? ⟨g, off + j, none⟩ = some u) := by
        intro j u hj
        rw [X1.out.cell (off + j)]
        rw [List.getElem?_map] at hj
        cases hl : L[j]? with
        | none => rw [hl] at hj; cases hj
        | some x => rw [hl] at hj; cases hj; exact hs6.out j x hl
      have HSP : Hid (L.length + 1 ≤ c → ∀ j, j < [Value.string s].length → (((w.drewN nq).alloc (.cells #[.string s] 9)).cell? ⟨g, off + L.length * 1 + j, none⟩).isSome = true ∧ ((w.drewN nq).alloc (.cells #[.string s] 9)).frozen? ⟨g, off + L.length * 1 + j, none⟩ = false) := by
        intro hr j hj
        refine ⟨?_, X1.out.frozen _⟩
        rw [X1.out.cell]
        simp at hj
        subst hj
        rw [Array.getElem?_eq_getElem (by omega)]
        rfl
      go_wp2_with (at_builtin
                   refine wpList_append_arg _ (by rfl) _ _ 22 (by rfl) 9 i0 (.string ⟨#[]⟩) 1 16 Try.underlying22 hi0 hz0 hz1 hz2 (by simp [Value.cells]) (by decide) g off L.length c (L.map Value.string) (by rfl) (by simp) HOLDS.out ⟨w.heap.size, 0, none⟩ 1 1 [.string s] (by rfl) (by rfl) (World.news_of_block (cs := #[.string s]) (t := 9) (fr := (0, 0)) (heap_alloc_new (w.drewN nq) _)) (by simp [Value.oneCell']) HSP.out HB1.out HB2.out ?_ (fun hlt => absurd hlt (by omega))
                   intro _
                   have y1 := (X2.out.far (p := ⟨g, off + L.length * 1, none⟩) hne (.string s))
                   have y4 := (X1.out.set_ (off + L.length * 1) (.string s))
                   have y5 : (((w.drewN nq).alloc (.cells #[.string s] 9)).setCells g (off + L.length * 1) [.string s]) = (((w.drewN nq).alloc (.cells #[.string s] 9)).setCell ⟨g, off + L.length * 1, none⟩ (.string s)) := rfl
                   rw [y5]
                   have y6 : Upd (fun k => k = gq ∨ F k) w (((w.drewN nq).alloc (.cells #[.string s] 9)).setCell ⟨g, off + L.length * 1, none⟩ (.string s)) := (((Upd.refl _ _).drewN nq).alloc _).setCell (p := ⟨g, off + L.length * 1, none⟩) (fun _ => Or.inr HF.out.1) _
                   have y7 : w.heap.size + 1 ≤ (((w.drewN nq).alloc (.cells #[.string s] 9)).setCell ⟨g, off + L.length * 1, none⟩ (.string s)).heap.size := by simp
                   generalize (((w.drewN nq).alloc (.cells #[.string s] 9)).setCell ⟨g, off + L.length * 1, none⟩ (.string s)) = y at y1 y4 y5 y6 y7 ⊢
                   have y2 := y1.cell 0
                   have y3 := y1.frozen 0
                   simp at y2
                   clear c0 c1 f0)
      go_ret
      refine ⟨rfl, ⟨.slice (some ⟨g, off, none⟩) (L.length + 1) c, ?_, Or.inr ⟨g, off, c, _, by simp, Or.inl HF.out.1, y4.far (fun e => hne e.symm) _, by simpa using hroom, by simpa using h5, ?_⟩⟩, y6.setCell (p := ⟨gq, 0, none⟩) (fun _ => Or.inl rfl) _⟩
      · simpa using y1.set_ 0 (.slice (some ⟨g, off, none⟩) (L.length + 1) c)
      · intro i x hi
        rw [Array.getElem?_setIfInBounds]
        by_cases hil : i = L.length
        · subst hil
          rw [List.getElem?_append_right (Nat.le_refl _)] at hi
          simp at hi
          subst hi
          rw [if_pos (by omega), if_pos (by omega)]
        · rw [if_neg (by omega)]
          rcases Nat.lt_or_ge i L.length with h | h
          · rw [List.getElem?_append_left h] at hi
            exact hs6.out i x hi
          · rw [List.getElem?_eq_none (by simp; omega)] at hi
            cases hi
    · go_enter Try.func88, Try.ntmps88
      go_wp2_with fail
      go_quiet (fail)
      have X1 := Lib.hid ((h3.drewN nq).alloc (.cells #[.string s] 9))
      have X2 := Lib.hid ((H.out.drewN nq).alloc (.cells #[.string s] 9))
      have HOLDS : Hid (∀ j u, (L.map Value.string)[j]? = some u → ((w.drewN nq).alloc (.cells #[.string s] 9)).cell? ⟨g, off + j, none⟩ = some u) := by
        intro j u hj
        rw [X1.out.cell (off + j)]
        rw [List.getElem?_map] at hj
        cases hl : L[j]? with
        | none => rw [hl] at hj; cases hj
        | some x => rw [hl] at hj; cases hj; exact hs6.out j x hl
      go_wp2_with (at_builtin
                   go_loud (refine wpList_append_arg _ (by rfl) _ _ 22 (by rfl) 9 i0 (.string ⟨#[]⟩) 1 16 Try.underlying22 hi0 hz0 hz1 hz2 (by simp [Value.cells]) (by decide) g off L.length c (L.map Value.string) (by rfl) (by simp) HOLDS.out ⟨w.heap.size, 0, none⟩ 1 1 [.string s] (by rfl) (by rfl) (World.news_of_block (cs := #[.string s]) (t := 9) (fr := (0, 0)) (heap_alloc_new (w.drewN nq) _)) (by simp [Value.oneCell']) (fun hlt => absurd hlt (by omega)) HB1.out HB2.out (fun hlt => absurd hlt (by omega)) ?_; intro _ v' y hown hgrow; obtain ⟨a', c', rfl⟩ := own_form hown; have y1 : Blk y gq 73 #[.slice (some ⟨g, off, none⟩) L.length c, .int .i64 d] := (hgrow.block _ X2.out.lt (by simp)).trans X2.out; have y6 : Upd (fun k => k = gq ∨ F k) w y := ⟨hgrow.os, hgrow.tape, hgrow.output, by have := hgrow.size; simp at this; omega, fun i hi _ => (hgrow.block i (by simp; omega) (by simp)).trans (Below.heap_alloc (w.drewN nq) _ i (by simpa using hi))⟩; have y2 := y1.cell 0; have y3 := y1.frozen 0; simp at y2; clear c0 c1 f0))
      go_ret
      refine ⟨rfl, ⟨.slice a' (L.length + 1) c', ?_, ?_⟩, y6.setCell (p := ⟨gq, 0, none⟩) (fun _ => Or.inl rfl) _⟩
      · simpa using y1.set_ 0 (.slice a' (L.length + 1) c')
      · have hq := qrow_own (L := L ++ [s]) (by simpa using hown)
        refine (hq.far (p := ⟨gq, 0, none⟩) (fun h => by have := h.1; first | (simp at this; omega) | (simp only at this; omega)) _).mono ?_
        intro k hk
        refine Or.inr ⟨?_, ?_⟩
        · have := hk.1; first | (simp at this; omega) | omega
        · simpa using hk.2
end Go.Proofs.Ytlaakcgipecldaa
