/- A call of both: they answer alike. Conditions: the ports are sound; both stand alike. -/
import Derived.Test.YtlaakcgipecldaaRtJoin2
import Derived.Deep.RegionHeld3
namespace Go.Proofs.Ytlaakcgipecldaa
set_option linter.all false
open Go.RowKit

/-- What Send answers and leaves. -/
def SSp (L : List RE) (part p : Int) (m : ByteArray) (t E : Int) (L' : List RE) : Prop :=
  (∃ (k : Nat) (hk : k < L.length), p = k ∧ L[k].f = part ∧ E = sendE L[k].s m.size t ∧ L' = onE L k (sendS L[k].s m t)) ∨ ((∀ i (hi : i < L.length), p = i → L[i].f ≠ part) ∧ E = 220 ∧ L' = L)
def RSp (L : List RE) (part p t : Int) (m : ByteArray) (b : Bool) (E : Int) (L' : List RE) : Prop :=
  (∃ (k : Nat) (hk : k < L.length), p = k ∧ L[k].t = part ∧ m = recvM L[k].s t ∧ b = recvB L[k].s t ∧ E = recvE L[k].s t ∧ L' = onE L k (recvS L[k].s t)) ∨ ((∀ i (hi : i < L.length), p = i → L[i].t ≠ part) ∧ m = emptyS ∧ b = false ∧ E = 220 ∧ L' = L)
theorem SSp.sound {L L' : List RE} {part p t E : Int} {m : ByteArray} (h : SSp L part p m t E L') (ho : Sound L) : Sound L' ∧ L'.length = L.length := by
  rcases h with ⟨k, hk, _, _, _, rfl⟩ | ⟨_, _, rfl⟩
  · exact ⟨ho.send k hk m t, onE_length _ _ _⟩
  · exact ⟨ho, rfl⟩
theorem RSp.sound {L L' : List RE} {part p t E : Int} {m : ByteArray} {b : Bool} (h : RSp L part p t m b E L') (ho : Sound L) : Sound L' ∧ L'.length = L.length := by
  rcases h with ⟨k, hk, _, _, _, _, _, rfl⟩ | ⟨_, _, _, _, rfl⟩
  · exact ⟨ho.recv k hk t, onE_length _ _ _⟩
  · exact ⟨ho, rfl⟩
theorem ssp_ex (L : List RE) (part p : Int) (m : ByteArray) (t : Int) : ∃ E L', SSp L part p m t E L' := by
  by_cases h : ∃ (k : Nat) (hk : k < L.length), p = k ∧ L[k].f = part
  · obtain ⟨k, hk, h1, h2⟩ := h
    exact ⟨_, _, Or.inl ⟨k, hk, h1, h2, rfl, rfl⟩⟩
  · exact ⟨_, _, Or.inr ⟨fun i hi h1 h2 => h ⟨i, hi, h1, h2⟩, rfl, rfl⟩⟩
theorem rsp_ex (L : List RE) (part p t : Int) : ∃ m b E L', RSp L part p t m b E L' := by
  by_cases h : ∃ (k : Nat) (hk : k < L.length), p = k ∧ L[k].t = part
  · obtain ⟨k, hk, h1, h2⟩ := h
    exact ⟨_, _, _, _, Or.inl ⟨k, hk, h1, h2, rfl, rfl, rfl, rfl⟩⟩
  · exact ⟨_, _, _, _, Or.inr ⟨fun i hi h1 h2 => h ⟨i, hi, h1, h2⟩, rfl, rfl, rfl, rfl⟩⟩

section
variable {w x x' : World} {rp rp' D : Nat} {L M L' : List RE} {O : World → (Nat → Prop) → Prop} {T : TypeId} {cs : Array Value}
theorem jx_send (h : JX w x rp L O) (ho : Sound L) {part p t E : Int} {m : ByteArray} (hs : SSp L part p m t E L') (hm : m.size ≤ maxLen) :
    Calls Try.prog 30 #[.pointer (some ⟨rp, 0, none⟩), .int .i64 part, .int .i64 p, .string m, .int .i64 t] x fun e x' => e = .returned (.int .i64 E) ∧ JX w x' rp L' O := by
  rcases hs with ⟨k, hk, rfl, rfl, rfl, rfl⟩ | ⟨h1, rfl, rfl⟩
  · exact jx_send_ok h ho k hk t m hm
  · exact jx_send_no h part p t m h1
theorem jr_send (h : JX w x rp L (OD rp' M D T cs)) (ho : Sound M) {part p t E : Int} {m : ByteArray} {M' : List RE} (hs : SSp M part p m t E M') (hm : m.size ≤ maxLen) :
    Calls Try.prog 36 #[.pointer (some ⟨rp', 0, none⟩), .int .i64 part, .int .i64 p, .string m, .int .i64 t] x fun e x' => e = .returned (.int .i64 E) ∧ JX w x' rp L (OD rp' M' D T cs) := by
  rcases hs with ⟨k, hk, rfl, rfl, rfl, rfl⟩ | ⟨h1, rfl, rfl⟩
  · exact jr_send_ok h ho k hk t m hm
  · exact jr_send_no h part p t m h1
theorem jx_recv (h : JX w x rp L O) (ho : Sound L) {part p t E : Int} {m : ByteArray} {b : Bool} (hs : RSp L part p t m b E L') :
    Calls Try.prog 31 #[.pointer (some ⟨rp, 0, none⟩), .int .i64 part, .int .i64 p, .int .i64 t] x fun e x' => e = .returned (.tuple #[.string m, .bool b, .int .i64 E]) ∧ JX w x' rp L' O := by
  rcases hs with ⟨k, hk, rfl, rfl, rfl, rfl, rfl, rfl⟩ | ⟨h1, rfl, rfl, rfl, rfl⟩
  · exact jx_recv_ok h ho k hk t
  · exact jx_recv_no h part p t h1
theorem jr_recv (h : JX w x rp L (OD rp' M D T cs)) (ho : Sound M) {part p t E : Int} {m : ByteArray} {b : Bool} {M' : List RE} (hs : RSp M part p t m b E M') :
    Calls Try.prog 37 #[.pointer (some ⟨rp', 0, none⟩), .int .i64 part, .int .i64 p, .int .i64 t] x fun e x' => e = .returned (.tuple #[.string m, .bool b, .int .i64 E]) ∧ JX w x' rp L (OD rp' M' D T cs) := by
  rcases hs with ⟨k, hk, rfl, rfl, rfl, rfl, rfl, rfl⟩ | ⟨h1, rfl, rfl, rfl, rfl⟩
  · exact jr_recv_ok h ho k hk t
  · exact jr_recv_no h part p t h1

/-- n cells of a row of its own, where there is one. -/
def Roomy (B : Nat) (w : World) (A : Option Addr) (n : Nat) : Prop := 0 < n → ∃ g cur, A = some ⟨g, 0, none⟩ ∧ B ≤ g ∧ Blk w g 3 cur ∧ n ≤ cur.size
theorem roomy_of {B : Nat} {w : World} {A : Option Addr} {n c : Nat} {zs : List Value} (h : w.ownsRow B 3 1 (.slice A n c) n zs) : Roomy B w A n := fun hn => by
  rcases h.2 with ⟨_, h0⟩ | ⟨g, cap, cur, hv, hb, hg, h1, h2, h3, _⟩
  · omega
  · injection hv with hA
    exact ⟨g, cur, hA, hb, hg, by omega⟩
theorem roomy_put {x0 w : World} {g n : Nat} {cur : Array Value} (hb : Below x0.heap.size x0 w) (hg : x0.heap.size ≤ g) (h : Blk w g 3 cur) (hn : n ≤ cur.size) (i : Nat) :
    Below x0.heap.size x0 (w.setCell ⟨g, i, none⟩ (.int .i64 (-1))) ∧ Roomy x0.heap.size (w.setCell ⟨g, i, none⟩ (.int .i64 (-1))) (some ⟨g, 0, none⟩) n :=
  ⟨hb.setCell (p := ⟨g, i, none⟩) hg _, fun _ => ⟨g, _, rfl, hg, h.set_ i _, by simpa using hn⟩⟩

/-- Both stand alike. -/
structure JS (w x : World) (rp rp' : Nat) (L : List RE) : Prop where
  j : JX w x rp L (OP rp' L)
  o : Sound L
  l : L.length ≤ 8

set_option maxRecDepth 100000 in
set_option maxHeartbeats 8000000 in
theorem step_any (h : JS w x rp rp' L) (kd pt po nw : Int) (hkd : -9223372036854775808 ≤ kd ∧ kd ≤ 9223372036854775807) (m : ByteArray) (hm : m.size ≤ maxLen) :
    Calls Try.prog 25 #[.pointer (some ⟨rp, 0, none⟩), .pointer (some ⟨rp', 0, none⟩), .agg #[.int .i64 kd, .int .i64 pt, .int .i64 po, .int .i64 nw, .string m]] x fun e x' => e = .returned (.bool true) ∧ ∃ L', JS w x' rp rp' L' ∧ L'.length = L.length := by
  have HJ1 := Lib.hid (h.j.take #[.int .i64 kd, .int .i64 pt, .int .i64 po, .int .i64 nw, .string m] 61)
  have HO := Lib.hid h.o
  have HL := Lib.hid h.l
  have HM := Lib.hid hm
  have HKD := Lib.hid hkd
  have hb := HJ1.out.blk
  have c0 := hb.cell 0
  have c1 := hb.cell 1
  have c2 := hb.cell 2
  have c3 := hb.cell 3
  have c4 := hb.cell 4
  simp at c0 c1 c2 c3 c4
  clear h hm hb hkd
  have hq0 := Int.emod_nonneg kd (b := 4) (by decide)
  have hq1 := Int.emod_lt_of_pos kd (b := 4) (by decide)
  obtain ⟨q, hq⟩ : ∃ q, kd % 4 = q := ⟨_, rfl⟩
  rw [hq] at hq0 hq1
  have HQ := Lib.hid hq
  clear hq
  have hq4 : q = 0 ∨ q = 1 ∨ q = 2 ∨ q = 3 := by omega
  rcases hq4 with rfl | rfl | rfl | rfl
  · obtain ⟨E, L', hS⟩ := ssp_ex L pt po m nw
    have HS := Lib.hid hS
    clear hS hq0 hq1
    go_enter Try.func25, Try.ntmps25
    go_wp2_with (go_at_call 10; refine (bring_any _ _ _ HKD.out (by omega)).mono ?_; rw [HQ.out]; rintro r y3 ⟨rfl, -, rfl⟩)
    go_region_held3 (fun w' => w'.cell? ⟨x.heap.size, 1, none⟩ = some (.int .i64 pt) ∧ w'.cell? ⟨x.heap.size, 2, none⟩ = some (.int .i64 po) ∧ w'.cell? ⟨x.heap.size, 3, none⟩ = some (.int .i64 nw) ∧ w'.cell? ⟨x.heap.size, 4, none⟩ = some (.string m)) (first | go_keep | (exact E2.out) | (exact E1.out))
      (first
        | (go_at_call 30; refine (jx_send (HJ1.out.drewN 1) HO.out HS.out HM.out).mono ?_; rintro r y3 ⟨rfl, hj⟩; have HJ2 := Lib.hid hj; have E1 := Lib.hid (And.intro (show y3.cell? ⟨x.heap.size, 1, none⟩ = some (.int .i64 pt) from hj.blk.cell 1) (And.intro (show y3.cell? ⟨x.heap.size, 2, none⟩ = some (.int .i64 po) from hj.blk.cell 2) (And.intro (show y3.cell? ⟨x.heap.size, 3, none⟩ = some (.int .i64 nw) from hj.blk.cell 3) (show y3.cell? ⟨x.heap.size, 4, none⟩ = some (.string m) from hj.blk.cell 4)))); clear hj)
        | (go_at_call 36; refine (jr_send HJ2.out HO.out HS.out HM.out).mono ?_; rintro r y4 ⟨rfl, hj⟩; have HJ3 := Lib.hid hj; have E2 := Lib.hid (And.intro (show y4.cell? ⟨x.heap.size, 1, none⟩ = some (.int .i64 pt) from hj.blk.cell 1) (And.intro (show y4.cell? ⟨x.heap.size, 2, none⟩ = some (.int .i64 po) from hj.blk.cell 2) (And.intro (show y4.cell? ⟨x.heap.size, 3, none⟩ = some (.int .i64 nw) from hj.blk.cell 3) (show y4.cell? ⟨x.heap.size, 4, none⟩ = some (.string m) from hj.blk.cell 4)))); clear hj))
    all_goals go_wp2_with fail
    all_goals go_ret
    all_goals exact ⟨rfl, L', ⟨HJ3.out.drop, (HS.out.sound HO.out).1, by rw [(HS.out.sound HO.out).2]; exact HL.out⟩, (HS.out.sound HO.out).2⟩
  · obtain ⟨mr, br, E, L', hS⟩ := rsp_ex L pt po nw
    have HS := Lib.hid hS
    clear hS hq0 hq1
    go_enter Try.func25, Try.ntmps25
    go_wp2_with (first
      | (go_at_call 10; refine (bring_any _ _ _ HKD.out (by omega)).mono ?_; rw [HQ.out]; rintro r y3 ⟨rfl, -, rfl⟩)
      | (go_at_call 31; refine (jx_recv HJ1.out HO.out HS.out).mono ?_; rintro r y4 ⟨rfl, hj⟩; have HJ2 := Lib.hid hj; have d1 := hj.blk.cell 1; have d2 := hj.blk.cell 2; have d3 := hj.blk.cell 3; simp at d1 d2 d3; clear hj)
      | (go_at_call 37; refine (jr_recv HJ2.out HO.out HS.out).mono ?_; rintro r y5 ⟨rfl, hj⟩; have HJ3 := Lib.hid hj; clear hj))
    all_goals go_ret
    all_goals exact ⟨by simp, L', ⟨HJ3.out.drop, (HS.out.sound HO.out).1, by rw [(HS.out.sound HO.out).2]; exact HL.out⟩, (HS.out.sound HO.out).2⟩
  · have HL2 := Lib.hid (show L.length ≤ 1000 by have := HL.out; omega)
    clear hq0 hq1
    go_enter Try.func25, Try.ntmps25
    go_wp2_with (go_at_call 10; refine (bring_any _ _ _ HKD.out (by omega)).mono ?_; rw [HQ.out]; rintro r y3 ⟨rfl, -, rfl⟩)
    go_region_held3 (fun w' => w'.cell? ⟨x.heap.size, 1, none⟩ = some (.int .i64 pt)) (first | go_keep | (exact E2.out) | (exact E1.out))
      (first
        | (go_at_call 32; refine (jx_clear (HJ1.out.drewN 1) HO.out HL2.out pt).mono ?_; rintro r y4 ⟨rfl, hj⟩; have HJ2 := Lib.hid hj; have E1 := Lib.hid (show y4.cell? ⟨x.heap.size, 1, none⟩ = some (.int .i64 pt) from hj.blk.cell 1); clear hj)
        | (go_at_call 38; refine (jr_clear HJ2.out HO.out HL2.out pt).mono ?_; rintro r y5 ⟨rfl, hj⟩; have HJ3 := Lib.hid hj; have E2 := Lib.hid (show y5.cell? ⟨x.heap.size, 1, none⟩ = some (.int .i64 pt) from hj.blk.cell 1); clear hj))
    all_goals go_wp2_with fail
    all_goals go_ret
    all_goals exact ⟨by simp, clrL pt L L.length, ⟨HJ3.out.drop, HO.out.clear pt, by rw [clrL_length]; exact HL.out⟩, clrL_length _ _ _⟩
  · have HL2 := Lib.hid (show L.length ≤ 1000 by have := HL.out; omega)
    have hrl := picked_le (rounds pt (ends L) 4) 4
    have HRL := Lib.hid (show (rchL pt L).length ≤ 4 from hrl)
    clear hq0 hq1 hrl
    obtain ⟨xs, hxs⟩ : ∃ xs, rchL pt L = xs := ⟨_, rfl⟩
    rw [hxs] at HRL
    have HXS := Lib.hid hxs
    clear hxs
    go_enter Try.func25, Try.ntmps25
    go_wp2_with (first
      | (go_at_call 10; refine (bring_any _ _ _ HKD.out (by omega)).mono ?_; rw [HQ.out]; rintro r y3 ⟨rfl, -, rfl⟩)
      | (go_at_call 39; refine (jx_reach HJ1.out HO.out HL2.out pt).mono ?_; rw [HXS.out]; rintro r y4 ⟨A1, k1, rfl, hr, hb⟩; have HE := Lib.hid (And.intro hr hb); have HJ2 := Lib.hid (HJ1.out.below hb); have d1 := HJ2.out.blk.cell 1; simp at d1; clear hr hb)
      | (go_at_call 41; refine (jr_reach HJ2.out HO.out HL2.out pt).mono ?_; rw [HXS.out]; rintro r y5 ⟨A2, k2, rfl, hr, hb⟩; have HF := Lib.hid (And.intro hr hb); clear hr hb)
      | (go_at_call 40; refine (eqints_true ((ints_own HE.out.1).below HF.out.2) (ints_own HF.out.1) _ _ (fun i hi => rfl) (by have := HRL.out; have : (4 : Nat) ≤ maxLen := (by decide); omega)).mono ?_; rintro r y6 ⟨rfl, hb⟩
         have HB6 := Lib.hid (HE.out.2.trans ((HF.out.2.trans (hb.mono HF.out.2.size)).mono HE.out.2.size))
         have HR6 := Lib.hid (own_below (own_below HE.out.1 HF.out.2) hb)
         clear hb))
    have HW6 := Lib.hid (roomy_of HR6.out)
    have hx4 := HRL.out
    clear HE HJ2 HF d1 HR6
    generalize (x.alloc (.cells #[.int .i64 kd, .int .i64 pt, .int .i64 po, .int .i64 nw, .string m] 61)) = x0 at HJ1 HB6 HW6
    go_loopw [15] (fun p wr => ∃ i : Nat, i ≤ xs.length ∧ p = .int .i64 (i : Int) ∧ Hid (Below x0.heap.size x0 wr ∧ Roomy x0.heap.size wr A1 xs.length)) (fun p _ => xs.length - (intOf p).toNat)
    case atStart => exact ⟨0, by omega, rfl, HB6.out, HW6.out⟩
    case round =>
      obtain ⟨i, hi, rfl, HR⟩ := hrel
      by_cases hi2 : i < xs.length
      · have d2 : decide (i < xs.length) = true := decide_eq_true hi2
        obtain ⟨g, cur, hA, hg, hbg, hsz⟩ := HR.out.2 (by omega)
        subst hA
        have hlt := hbg.lt
        obtain ⟨z, hz⟩ : ∃ z, cur[i]? = some z := ⟨_, Array.getElem?_eq_getElem (by omega)⟩
        have ci := (hbg.cell i).trans hz
        have fi := hbg.frozen i
        have HRN := Lib.hid (roomy_put HR.out.1 hg hbg hsz i)
        clear hbg hz hg hsz hlt
        go_wp2_with fail
        exact ⟨⟨i + 1, by omega, rfl, HRN.out⟩, by simp [intOf]; omega⟩
      · have d2 : decide (i < xs.length) = false := decide_eq_false hi2
        go_wp2_with fail
        go_ret
        exact ⟨rfl, L, ⟨(HJ1.out.below HR.out.1).drop, HO.out, HL.out⟩, rfl⟩
end
end Go.Proofs.Ytlaakcgipecldaa
