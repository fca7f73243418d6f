/- Reach of the document's answer. Conditions: the ports are sound. -/
import Derived.Test.YtlaakcgipecldaaRrClear
namespace Go.Proofs.Ytlaakcgipecldaa
set_option linter.all false
open Go.RowKit

def stp (v : Int) (st : List Bool) (p : Int × Int) : List Bool := if p.1 = v ∨ st.getD p.1.toNat false = true then st.set p.2.toNat true else st
def rnd (v : Int) (es : List (Int × Int)) (st : List Bool) : List Bool := es.foldl (stp v) st
def rounds (v : Int) (es : List (Int × Int)) : Nat → List Bool
  | 0 => [false, false, false, false]
  | r + 1 => rnd v es (rounds v es r)
theorem stp_length (v : Int) (st : List Bool) (p : Int × Int) : (stp v st p).length = st.length := by unfold stp; split <;> simp
theorem fold_length (v : Int) : ∀ (es : List (Int × Int)) (st : List Bool), (es.foldl (stp v) st).length = st.length
  | [], _ => rfl
  | p :: es, st => by rw [List.foldl_cons, fold_length v es, stp_length]
theorem rounds_length (v : Int) (es : List (Int × Int)) : ∀ r, (rounds v es r).length = 4
  | 0 => rfl
  | r + 1 => by rw [rounds, rnd, fold_length, rounds_length v es r]
def picked (st : List Bool) (n : Nat) : List Int := ((List.range n).filter fun i => st.getD i false).map fun i : Nat => (i : Int)
theorem picked_succ (st : List Bool) (n : Nat) : picked st (n + 1) = picked st n ++ (if st.getD n false = true then [(n : Int)] else []) := by
  unfold picked
  rw [List.range_succ, List.filter_append, List.map_append]
  congr 1
  by_cases h : st.getD n false = true <;> simp_all
theorem picked_le (st : List Bool) (n : Nat) : (picked st n).length ≤ n := by
  unfold picked
  rw [List.length_map]
  exact Nat.le_trans (List.length_filter_le _ _) (by simp)

/-- The array in memory. -/
structure AS (w : World) (B : Nat) (st : List Bool) (wr : World) : Prop where
  b : Blk wr B 96 (st.map Value.bool).toArray
  bw : Below w.heap.size w wr
  n : st.length = 4
  l : w.heap.size ≤ B
theorem AS.cell {w wr : World} {B : Nat} {st : List Bool} (h : AS w B st wr) (i : Nat) (hi : i < 4) : wr.cell? ⟨B, i, none⟩ = some (.bool (st.getD i false)) := by
  have h1 : i < st.length := by rw [h.n]; exact hi
  rw [h.b.cell i]
  simp [h1]

theorem AS.alloc {w wr : World} {B : Nat} {st : List Bool} (h : AS w B st wr) (o : Obj) : AS w B st (wr.alloc o) := ⟨h.b.alloc o, h.bw.alloc h.bw.size o, h.n, h.l⟩
theorem AS.put {w wr : World} {B : Nat} {st : List Bool} (h : AS w B st wr) (i : Nat) : AS w B (st.set i true) (wr.setCell ⟨B, i, none⟩ (.bool true)) := by
  refine ⟨?_, h.bw.setCell (p := ⟨B, i, none⟩) h.l _, by rw [List.length_set]; exact h.n, h.l⟩
  have := h.b.set_ i (.bool true)
  rw [List.map_set]
  simpa using this
theorem own_not_arr {w : World} {B : Nat} {cs : Array Value} {base : Nat} {u : Value} {k : Nat} {xs : List Value} (h : Blk w B 96 cs) (hr : w.ownsRow base 3 1 u k xs) : u.ownBlock ≠ some B := by
  rcases hr.2 with ⟨rfl, _⟩ | ⟨g, cap, cur, rfl, _, hgb, _⟩
  · simp [Value.ownBlock]
  · intro e
    obtain rfl : g = B := by simpa [Value.ownBlock] using e
    have h2 := hgb.symm.trans h
    injection h2 with h2
    injection h2 with _ h2
    revert h2
    decide
theorem AS.grow {w wr w' : World} {B : Nat} {st : List Bool} {row : Option Nat} (h : AS w B st wr) (hg : wr.grownBy w' row) (hr : row ≠ some B) (hb : ∀ j, row = some j → w.heap.size ≤ j) : AS w B st w' :=
  ⟨(hg.block B h.b.lt (fun e => hr e.symm)).trans h.b, h.bw.grown hg h.bw.size hb, h.n, h.l⟩
theorem foldl_take_succ (v : Int) (es : List (Int × Int)) (st : List Bool) (k : Nat) (hk : k < es.length) : (es.take (k + 1)).foldl (stp v) st = stp v ((es.take k).foldl (stp v) st) es[k] := by
  rw [List.take_succ_eq_append_getElem hk, List.foldl_append]
  rfl

section
variable {w : World} {S : Nat → Prop} {F : Nat → Nat → Prop} {rp : Nat} {L : List RE} {A : Option Addr} {gs : Nat → Nat}

theorem rway6 (h : RlP w S F rp L A gs) (k : Nat) (hk : k < L.length) : gs k < w.heap.size ∧ ∃ d a, w.cell? ⟨gs k, 0, none⟩ = some (.int .i64 L[k].s.kind) ∧ w.cell? ⟨gs k, 1, none⟩ = some (.int .i64 L[k].f) ∧ w.cell? ⟨gs k, 2, none⟩ = some (.int .i64 L[k].t) ∧
    w.cell? ⟨gs k, 3, none⟩ = some (.int .i64 L[k].s.size) ∧ w.cell? ⟨gs k, 4, none⟩ = some (.int .i64 d) ∧ w.cell? ⟨gs k, 5, none⟩ = some (.int .i64 a) := by
  obtain ⟨d, a, rv, at_, _, hb, _⟩ := h.way k hk
  exact ⟨hb.lt, d, a, hb.cell 0, hb.cell 1, hb.cell 2, hb.cell 3, hb.cell 4, hb.cell 5⟩

set_option maxRecDepth 100000 in
set_option maxHeartbeats 4000000 in
theorem rreach_p (h : RlP w S F rp L A gs) (ho : Sound L) (hl : L.length ≤ 1000) (v : Int) :
    Calls Try.prog 41 #[.pointer (some ⟨rp, 0, none⟩), .int .i64 v] w fun e w' => ∃ u,
      e = .returned u ∧ w'.ownsRow w.heap.size 3 1 u (picked (rounds v (ends L) 4) 4).length ((picked (rounds v (ends L) 4) 4).map (Value.int .i64)) ∧ Below w.heap.size w w' := by
  have H := Lib.hid h
  have HO := Lib.hid ho
  clear h ho
  go_enter Try.func41, Try.ntmps41
  go_wp2_with fail
  go_loopw [6] (fun p wr => ∃ r : Nat, r ≤ 4 ∧ p = .int .i64 (r : Int) ∧ Hid (AS w w.heap.size (rounds v (ends L) r) wr)) (fun p _ => 4 - (intOf p).toNat)
  case atStart => exact ⟨0, by omega, rfl, Blk.new w _ _, (Below.refl _ w).alloc (Nat.le_refl _) _, rfl, Nat.le_refl _⟩
  case round =>
    obtain ⟨r, hr, rfl, HR⟩ := hrel
    by_cases hr2 : r < 4
    · have d1 : decide (r < 4) = true := decide_eq_true hr2
      have d1' : decide ((r : Int) < 4) = true := decide_eq_true (by omega)
      go_wp2_with fail
      obtain ⟨wE, hE⟩ : ∃ wE, wE = wr := ⟨_, rfl⟩
      subst hE
      go_loopw [7] (fun p wr => ∃ k : Nat, k ≤ L.length ∧ p = .int .i64 (k : Int) ∧ Hid (AS w w.heap.size (((ends L).take k).foldl (stp v) (rounds v (ends L) r)) wr)) (fun p _ => L.length - (intOf p).toNat)
      case atStart => exact ⟨0, by omega, rfl, HR.out⟩
      case round =>
        obtain ⟨k, hk, rfl, HS⟩ := hrel
        have hBw := HS.out.bw
        obtain ⟨c, hc⟩ := H.out.rt
        have c0 := (hBw.cell (p := ⟨rp, 0, none⟩) hc.lt).trans (hc.cell 0)
        simp at c0
        clear hc
        by_cases hk2 : k < L.length
        · have d2 : decide (k < L.length) = true := decide_eq_true hk2
          obtain ⟨b, o, hA, hSb, c3⟩ := H.out.row k hk2
          subst hA
          have c3' := (hBw.cell (p := ⟨b, o + k, none⟩) (H.out.ft.sl b hSb)).trans c3
          obtain ⟨hgl, d, a, q0, q1, q2, q3, q4, q5⟩ := rway6 H.out k hk2
          have q0' := (hBw.cell (p := ⟨gs k, 0, none⟩) hgl).trans q0
          have q1' := (hBw.cell (p := ⟨gs k, 1, none⟩) hgl).trans q1
          have q2' := (hBw.cell (p := ⟨gs k, 2, none⟩) hgl).trans q2
          have q3' := (hBw.cell (p := ⟨gs k, 3, none⟩) hgl).trans q3
          have q4' := (hBw.cell (p := ⟨gs k, 4, none⟩) hgl).trans q4
          have q5' := (hBw.cell (p := ⟨gs k, 5, none⟩) hgl).trans q5
          clear q0 q1 q2 q3 q4 q5 c3 hBw
          obtain ⟨kf, hkf⟩ : ∃ kf : Nat, L[k].f = kf ∧ kf < 4 := ⟨L[k].f.toNat, by have := (HO.out k hk2).2.2; omega⟩
          obtain ⟨kt, hkt⟩ : ∃ kt : Nat, L[k].t = kt ∧ kt < 4 := ⟨L[k].t.toNat, by have := (HO.out k hk2).2.2; omega⟩
          rw [hkf.1] at q1'
          rw [hkt.1] at q2'
          have d3 : decide (kf < 4) = true := decide_eq_true hkf.2
          have d4 : decide (kt < 4) = true := decide_eq_true hkt.2
          have hkf4 := hkf.2
          have hkt4 := hkt.2
          have hlE : k < (ends L).length := by rw [ends, List.length_map]; exact hk2
          have hstep := foldl_take_succ v (ends L) (rounds v (ends L) r) k hlE
          have heE : (ends L)[k] = ((kf : Int), (kt : Int)) := by simp [ends, hkf.1, hkt.1]
          rw [heE] at hstep
          have HA := Lib.hid (HS.out.alloc (.cells #[.int .i64 L[k].s.kind, .int .i64 kf, .int .i64 kt, .int .i64 L[k].s.size, .int .i64 d, .int .i64 a] 30))
          have cf := HA.out.cell kf hkf.2
          have ct := HA.out.cell kt hkt.2
          have fz := HA.out.b.frozen kt
          obtain ⟨st, hst⟩ : ∃ x, ((ends L).take k).foldl (stp v) (rounds v (ends L) r) = x := ⟨_, rfl⟩
          obtain ⟨kd, hkd⟩ : ∃ x, L[k].s.kind = x := ⟨_, rfl⟩
          obtain ⟨sz, hsz⟩ : ∃ x, L[k].s.size = x := ⟨_, rfl⟩
          rw [hst] at hstep cf ct HA
          rw [hkd, hsz] at cf ct fz HA
          rw [hkd] at q0'
          rw [hsz] at q3'
          obtain ⟨bf, hbf⟩ : ∃ x, st.getD kf false = x := ⟨_, rfl⟩
          obtain ⟨bt, hbt⟩ : ∃ x, st.getD kt false = x := ⟨_, rfl⟩
          rw [hbf] at cf
          rw [hbt] at ct
          have HST := Lib.hid hstep
          have HKF := Lib.hid hkf
          have HBF := Lib.hid hbf
          clear hstep hkd hsz hbt hst hkf hkt heE hbf HS
          by_cases hv : (kf : Int) = v
          · have hin : stp v st ((kf : Int), (kt : Int)) = st.set kt true := by unfold stp; rw [if_pos (Or.inl hv)]; simp
            have HIN := Lib.hid (HST.out.trans hin)
            clear hin
            subst hv
            go_wp2_with fail
            exact ⟨⟨k + 1, by omega, rfl, by rw [HIN.out]; exact HA.out.put kt⟩, by simp [intOf]; omega⟩
          · have d5 : ((kf : Int) == v) = false := by simpa using hv
            cases bf with
            | true =>
              have hin : stp v st ((kf : Int), (kt : Int)) = st.set kt true := by unfold stp; rw [if_pos (Or.inr (by simpa using HBF.out))]; simp
              have HIN := Lib.hid (HST.out.trans hin)
              clear hin
              go_wp2_with fail
              exact ⟨⟨k + 1, by omega, rfl, by rw [HIN.out]; exact HA.out.put kt⟩, by simp [intOf]; omega⟩
            | false =>
              have hin : stp v st ((kf : Int), (kt : Int)) = st := by
                unfold stp
                rw [if_neg]
                rintro (h1 | h1)
                · exact hv h1
                · have h2 : st.getD kf false = true := by simpa using h1
                  rw [HBF.out] at h2
                  cases h2
              have HIN := Lib.hid (HST.out.trans hin)
              clear hin
              go_wp2_with fail
              exact ⟨⟨k + 1, by omega, rfl, by rw [HIN.out]; exact HA.out⟩, by simp [intOf]; omega⟩
        · have d2 : decide (k < L.length) = false := decide_eq_false hk2
          go_wp2_with fail
          have e : k = L.length := by omega
          subst e
          have hT : (ends L).take L.length = ends L := List.take_of_length_le (by simp [ends])
          exact ⟨⟨r + 1, by omega, rfl, by have := HS.out; rw [hT] at this; exact this⟩, by simp [intOf]; omega⟩
    · have d1 : decide (r < 4) = false := decide_eq_false hr2
      have d1' : decide ((r : Int) < 4) = false := decide_eq_false (by omega)
      have hr4 : r = 4 := by omega
      rw [hr4] at HR
      clear hr4
      go_wp2_with fail
      obtain ⟨wE, hE⟩ : ∃ wE, wE = wr := ⟨_, rfl⟩
      subst hE
      have HSt := Lib.hid (rounds_length v (ends L) 4)
      obtain ⟨st, hst⟩ : ∃ x, rounds v (ends L) 4 = x := ⟨_, rfl⟩
      rw [hst] at HR HSt
      have HSE := Lib.hid hst
      clear hst
      obtain ⟨i0, hi0, hz0, hz1, hz2⟩ := info_parts int_info
      have HI := Lib.hid (And.intro hi0 (And.intro hz0 (And.intro hz1 hz2)))
      clear hi0 hz0 hz1 hz2
      have HX := Lib.hid (show (1010 : Nat) ≤ maxLen by decide)
      go_loopw [9, 10] (fun u p wr => ∃ i : Nat, i ≤ 4 ∧ p = .int .i64 (i : Int) ∧ Hid (AS w w.heap.size st wr ∧ wr.ownsRow w.heap.size 3 1 u (picked st i).length ((picked st i).map (Value.int .i64)))) (fun _ p _ => 4 - (intOf p).toNat)
      case atStart => exact ⟨0, by omega, rfl, HR.out, by simp [picked, World.ownsRow]⟩
      case round =>
        obtain ⟨i, hi, rfl, HS⟩ := hrel
        by_cases hi2 : i < 4
        · have d2 : decide (i < 4) = true := decide_eq_true hi2
          have ci := HS.out.1.cell i hi2
          have hpk := picked_succ st i
          have hpl := picked_le st i
          obtain ⟨bi, hbi⟩ : ∃ x, st.getD i false = x := ⟨_, rfl⟩
          rw [hbi] at ci hpk
          have HPK := Lib.hid hpk
          have HPL := Lib.hid hpl
          clear hpk hpl hbi
          cases bi with
          | true =>
            have HN := Lib.hid (own_not_arr HS.out.1.b HS.out.2)
            go_wp2_with (at_builtin
                         refine wpList_append_lies _ (by rfl) _ _ 51 (by rfl) w.heap.size 3 i0 _ 1 8 Try.underlying51 HI.out.1 HI.out.2.1 HI.out.2.2.1 HI.out.2.2.2 (by decide) (by decide) u9 (picked st i).length ((picked st i).map (Value.int .i64)) (by rfl) (kept_alloc HS.out.2) ⟨wr.heap.size, 0, none⟩ 1 1 [.int .i64 (i : Int)] (by rfl) (by rfl) (World.news_of_block (cs := #[.int .i64 (i : Int)]) (t := 3) (fr := (0, 0)) (heap_alloc_new wr _)) (by simp [Value.oneCell']) (by decide) (by have := HPL.out; have := HX.out; omega) (by have := HPL.out; omega) (by have := HS.out.1.bw.size; simp; omega) (wr.heap.size + 1) (by simp) ?_
                         intro g9 c9 w9 hown hgrow hat hlt
                         have HP := Lib.hid (And.intro hown (AS.grow (HS.out.1.alloc _) hgrow HN.out (fun j e => (own_cells HS.out.2 e).1)))
                         clear hown hgrow hat hlt)
            exact ⟨⟨i + 1, by omega, rfl, HP.out.2, by have := HP.out.1; rw [HPK.out]; simpa using this⟩, by simp [intOf]; omega⟩
          | false =>
            go_wp2_with fail
            exact ⟨⟨i + 1, by omega, rfl, HS.out.1, by rw [HPK.out]; simpa using HS.out.2⟩, by simp [intOf]; omega⟩
        · have d2 : decide (i < 4) = false := decide_eq_false hi2
          have hi4 : i = 4 := by omega
          subst hi4
          go_wp2_with fail
          go_ret
          rw [HSE.out]
          exact ⟨_, rfl, HS.out.2, HS.out.1.bw⟩
end
end Go.Proofs.Ytlaakcgipecldaa
