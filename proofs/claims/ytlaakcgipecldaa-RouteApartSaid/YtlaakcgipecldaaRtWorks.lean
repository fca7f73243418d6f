/- The chapter's routes. No condition. -/
import Derived.Test.YtlaakcgipecldaaRtInts
namespace Go.Proofs.Ytlaakcgipecldaa
set_option linter.all false
open Go.RowKit

theorem Sound.on {L : List RE} (ho : Sound L) (k : Nat) {s : WS} (hw : WOk s) (hk : s.kind = 1 ∨ s.kind = 2) : Sound (onE L k s) := fun i hi => by
  have hi' : i < L.length := by rw [onE_length] at hi; exact hi
  obtain ⟨h1, h2, h3⟩ := ho i hi'
  by_cases e : i = k
  · subst e
    rw [onE_same]
    exact ⟨hw, hk, h3⟩
  · rw [onE_other _ _ _ _ _ e]
    exact ⟨h1, h2, h3⟩
theorem Sound.send {L : List RE} (ho : Sound L) (k : Nat) (hk : k < L.length) (m : ByteArray) (t : Int) : Sound (onE L k (sendS L[k].s m t)) :=
  ho.on k ((ho k hk).1.send (ho k hk).2.1 m t) (by rw [kind_send]; exact (ho k hk).2.1)
theorem Sound.recv {L : List RE} (ho : Sound L) (k : Nat) (hk : k < L.length) (t : Int) : Sound (onE L k (recvS L[k].s t)) :=
  ho.on k ((ho k hk).1.recv t) (by rw [kind_recv]; exact (ho k hk).2.1)
theorem Sound.clear {L : List RE} (ho : Sound L) (part : Int) : Sound (clrL part L L.length) := fun i hi => by
  have hi' : i < L.length := by rw [clrL_length] at hi; exact hi
  have h : (clrL part L L.length)[i] = clr part L[i] := by
    unfold clrL
    simp
  rw [h]
  obtain ⟨h1, h2, h3⟩ := ho i hi'
  unfold clr
  split
  · exact ⟨h1.clear, h2, h3⟩
  · exact ⟨h1, h2, h3⟩
theorem sound_fresh {Ps : List PV} (h : AllOk Ps) : Sound (Ps.map freshE) := fun i hi => by
  have hi' : i < Ps.length := by rw [List.length_map] at hi; exact hi
  have hp := h i hi'
  rw [List.getElem_map]
  have hq : PortOk Ps[i].k Ps[i].f Ps[i].t Ps[i].s Ps[i].d Ps[i].a := hp
  refine ⟨newW_ok hq, ?_, hq.2.1, hq.2.2.1, hq.2.2.2.1, hq.2.2.2.2.1⟩
  have := hq.1
  show Ps[i].k = 1 ∨ Ps[i].k = 2
  omega

def ONil : World → (Nat → Prop) → Prop := fun _ _ => True
theorem oNil : OF ONil := fun _ _ _ _ _ _ _ _ => trivial
/-- Fresh ports, with nothing beside. -/
theorem JX.fresh {w x x' : World} {rp : Nat} {L : List RE} {S : Nat → Prop} {F : Nat → Nat → Prop} {A : Option Addr} {hs gs : Nat → Nat} (h : RtP x' S F rp L A hs gs) (hS : ∀ k, S k → x.heap.size ≤ k) (hF : ∀ j, j < L.length → ∀ k, F j k → x.heap.size ≤ k) (hb : Below x.heap.size x x') (hw : Below w.heap.size w x) : JX w x' rp L ONil := by
  refine ⟨⟨S, F, A, hs, gs, fun _ => False, h, trivial, fun k hk => ⟨Nat.le_trans hw.size ?_, fun h => h⟩, fun _ h => h.elim⟩, hw.trans (hb.mono hw.size), oNil⟩
  rcases hk with hk | ⟨j, hj, hk⟩
  · exact hS k hk
  · exact hF j hj k hk

def chP : List PV := [⟨2, 0, 1, 2, 1, 0⟩, ⟨1, 1, 2, 2, 0, 5⟩]
theorem chapter_any (w : World) : Calls Try.prog 43 #[] w fun e w' => e = .returned (.slice (some ⟨w.heap.size, 0, none⟩) 2 2) ∧ Below w.heap.size w w' ∧ PRd w' (some ⟨w.heap.size, 0, none⟩) chP := by
  go_enter Try.func43, Try.ntmps43
  go_wp2_with fail
  go_ret
  refine ⟨by simp, (Below.refl _ _).alloc (Nat.le_refl _) _, fun i hi => ?_⟩
  have hb := Blk.new w 30 #[.int .i64 2, .int .i64 0, .int .i64 1, .int .i64 2, .int .i64 1, .int .i64 0, .int .i64 1, .int .i64 1, .int .i64 2, .int .i64 2, .int .i64 0, .int .i64 5]
  refine ⟨w.heap.size, 0, rfl, hb.lt, ?_⟩
  have hi2 : i = 0 ∨ i = 1 := by simp [chP] at hi; omega
  rcases hi2 with rfl | rfl
  · exact ⟨hb.cell 0, hb.cell 1, hb.cell 2, hb.cell 3, hb.cell 4, hb.cell 5⟩
  · exact ⟨hb.cell 6, hb.cell 7, hb.cell 8, hb.cell 9, hb.cell 10, hb.cell 11⟩
theorem chP_ok : AllOk chP := fun i hi => by
  have hi2 : i = 0 ∨ i = 1 := by simp [chP] at hi; omega
  rcases hi2 with rfl | rfl
  · show PV.ok ⟨2, 0, 1, 2, 1, 0⟩
    decide
  · show PV.ok ⟨1, 1, 2, 2, 0, 5⟩
    decide

section
variable {w x x' : World} {rp : Nat} {L : List RE} {O : World → (Nat → Prop) → Prop}
theorem jx_send_to (h : JX w x rp L O) (ho : Sound L) (k : Nat) (hk : k < L.length) {part p : Int} (t : Int) (m : ByteArray) (hf : L[k].f = part) (hp : (k : Int) = p) (hm : m.size ≤ maxLen) {e : Int} {L' : List RE} (he : sendE L[k].s m.size t = e) (hL : onE L k (sendS L[k].s m t) = L') :
    Calls Try.prog 30 #[.pointer (some ⟨rp, 0, none⟩), .int .i64 part, .int .i64 p, .string m, .int .i64 t] x fun r x' => r = .returned (.int .i64 e) ∧ JX w x' rp L' O := by
  subst hf hp he hL
  exact jx_send_ok h ho k hk t m hm
theorem jx_recv_to (h : JX w x rp L O) (ho : Sound L) (k : Nat) (hk : k < L.length) {part p : Int} (t : Int) (hf : L[k].t = part) (hp : (k : Int) = p) {m : ByteArray} {b : Bool} {e : Int} {L' : List RE} (h1 : recvM L[k].s t = m) (h2 : recvB L[k].s t = b) (h3 : recvE L[k].s t = e) (hL : onE L k (recvS L[k].s t) = L') :
    Calls Try.prog 31 #[.pointer (some ⟨rp, 0, none⟩), .int .i64 part, .int .i64 p, .int .i64 t] x fun r x' => r = .returned (.tuple #[.string m, .bool b, .int .i64 e]) ∧ JX w x' rp L' O := by
  subst hf hp h1 h2 h3 hL
  exact jx_recv_ok h ho k hk t
end

def aB : ByteArray := ⟨#[97]⟩
def xB : ByteArray := ⟨#[120]⟩
def cL0 : List RE := [⟨0, 1, ⟨2, 2, 1, [], 0⟩⟩, ⟨1, 2, ⟨1, 2, 5, [], 0⟩⟩]
def cL1 : List RE := [⟨0, 1, ⟨2, 2, 1, [aB], 0⟩⟩, ⟨1, 2, ⟨1, 2, 5, [], 0⟩⟩]
def cL3 : List RE := [⟨0, 1, ⟨2, 2, 1, [], 0⟩⟩, ⟨1, 2, ⟨1, 2, 5, [xB], 0⟩⟩]
theorem cL0_eq : chP.map freshE = cL0 := by rfl
theorem cS0 : Sound cL0 := cL0_eq ▸ sound_fresh chP_ok
theorem cE1 : onE cL0 0 (sendS (cL0[0]'(by decide)).s aB 0) = cL1 := by rfl
theorem cS1 : Sound cL1 := cE1 ▸ cS0.send 0 (by decide) aB 0
theorem cE2 : onE cL1 0 (recvS (cL1[0]'(by decide)).s 1) = cL0 := by rfl
theorem cE3 : onE cL0 1 (sendS (cL0[1]'(by decide)).s xB 0) = cL3 := by rfl
theorem cS3 : Sound cL3 := cE3 ▸ cS0.send 1 (by decide) xB 0
theorem two_cases {P : Nat → Prop} (n : Nat) (hn : n = 2) (h0 : P 0) (h1 : P 1) : ∀ i, i < n → P i := fun i hi => by
  have : i = 0 ∨ i = 1 := by omega
  rcases this with rfl | rfl
  · exact h0
  · exact h1

theorem cN1 : ∀ i (hi : i < cL0.length), (0 : Int) = i → cL0[i].f ≠ 1 := fun i hi e => by
  obtain rfl : i = 0 := by omega
  show (0 : Int) ≠ 1
  decide
theorem cN2 : ∀ i (hi : i < cL0.length), (2 : Int) = i → cL0[i].f ≠ 0 := fun i hi e => by
  have : i < 2 := hi
  omega
theorem cN3 : ∀ i (hi : i < cL1.length), (0 : Int) = i → cL1[i].t ≠ 0 := fun i hi e => by
  obtain rfl : i = 0 := by omega
  show (1 : Int) ≠ 0
  decide
theorem cR0 : rchL 0 cL0 = [1, 2] := by decide
theorem cR2 : rchL 2 cL0 = [] := by decide
theorem cLn : ((cL1[0]'(by decide)).s.L.length : Int) = 1 := rfl
theorem cC2 : clrN 2 cL3 = 1 := by decide

set_option maxRecDepth 100000 in
set_option maxHeartbeats 4000000 in
theorem route_works (w : World) : Calls Try.prog 28 #[] w fun r w' => r = .returned (.bool true) ∧ Below w.heap.size w w' := by
  have S0 := Lib.hid True.intro
  have S1 := Lib.hid True.intro
  have S2 := Lib.hid True.intro
  have S3 := Lib.hid True.intro
  have V0 := Lib.hid True.intro
  have V1 := Lib.hid True.intro
  have E0 := Lib.hid True.intro
  have E1 := Lib.hid True.intro
  have H8 := Lib.hid (show chP.length ≤ 8 by decide)
  go_enter Try.func28, Try.ntmps28
  go_wp2_with (first
    | (go_at_call 43; refine (chapter_any _).mono ?_; rintro r x1 ⟨rfl, hb, hp⟩; have HA := Lib.hid (And.intro hb hp); clear hb hp)
    | (go_at_call 23; refine (rnew_p _ _ 2 chP HA.out.2 H8.out).mono ?_; rintro r x2 ⟨h, hb⟩
       obtain ⟨rp, rfl, hJ⟩ : ∃ rp, r = .returned (.tuple #[.pointer (some ⟨rp, 0, none⟩), .int .i64 0]) ∧ JX w x2 rp cL0 ONil := by
         rcases h with ⟨rp, rfl, _, S, F, A, hs, gs, h1, h2, h3⟩ | ⟨_, h⟩
         · exact ⟨rp, rfl, JX.fresh h1 h2 h3 hb HA.out.1⟩
         · exact absurd chP_ok h
       have HJ := Lib.hid hJ
       clear h hb hJ)
    | (go_at_call 30; first
        | (have _tk := S0; refine (jx_send_no HJ.out 1 0 0 ⟨#[97]⟩ cN1).mono ?_; rintro r x3 ⟨rfl, hJ⟩; have HJ1 := Lib.hid hJ; clear hJ S0 _tk)
        | (have _tk := S1; refine (jx_send_to HJ1.out cS0 0 (by decide) (part := 0) (p := 0) (e := 0) 0 ⟨#[97]⟩ rfl rfl (by decide) rfl cE1).mono ?_; rintro r x4 ⟨rfl, hJ⟩; have HJ2 := Lib.hid hJ; clear hJ S1 _tk)
        | (have _tk := S2; refine (jx_send_no HJ4.out 0 2 0 ⟨#[97]⟩ cN2).mono ?_; rintro r x7 ⟨rfl, hJ⟩; have HJ5 := Lib.hid hJ; clear hJ S2 _tk)
        | (have _tk := S3; refine (jx_send_to HJ8.out cS0 1 (by decide) (part := 1) (p := 1) (e := 0) 0 ⟨#[120]⟩ rfl rfl (by decide) rfl cE3).mono ?_; rintro r x11 ⟨rfl, hJ⟩; have HJ9 := Lib.hid hJ; clear hJ S3 _tk))
    | (go_at_call 26; refine (jx_len_in HJ2.out cS1 0 (by decide)).mono ?_; rw [cLn]; rintro r x5 ⟨rfl, rfl⟩)
    | (go_at_call 31; first
        | (have _tk := V0; refine (jx_recv_no HJ2.out 0 0 1 cN3).mono ?_; rintro r x5 ⟨rfl, hJ⟩; have HJ3 := Lib.hid hJ; clear hJ V0 _tk)
        | (have _tk := V1; refine (jx_recv_to HJ3.out cS1 0 (by decide) (part := 1) (p := 0) (m := ⟨#[97]⟩) (b := true) (e := 0) 1 rfl rfl rfl rfl rfl cE2).mono ?_; rintro r x6 ⟨rfl, hJ⟩; have HJ4 := Lib.hid hJ; clear hJ V1 _tk))
    | (go_at_call 39; first
        | (have _tk := E0; refine (jx_reach HJ5.out cS0 (by decide) 0).mono ?_; rw [cR0]; rintro r x8 ⟨A1, k1, rfl, hr, hb⟩; have HE := Lib.hid (And.intro hr hb); clear hr hb E0 _tk)
        | (have _tk := E1; refine (jx_reach HJ6.out cS0 (by decide) 2).mono ?_; rw [cR2]; rintro r x10 ⟨A2, k2, rfl, hr, hb⟩; have HJ8 := Lib.hid (HJ6.out.below hb); clear hr hb E1 _tk))
    | (go_at_call 40
       refine (eqints_true (n := 2) ((ints_own HE.out.1).below ((Below.refl _ x8).alloc (Nat.le_refl _) (.cells #[.int .i64 1, .int .i64 2] 3))) (ints_blk (l := [1, 2]) (Blk.new x8 3 #[.int .i64 1, .int .i64 2])) _ _ (fun i hi => rfl) (by decide)).mono ?_
       rintro r x9 ⟨rfl, hb⟩
       have HJ6 := Lib.hid (HJ5.out.below (HE.out.2.trans ((((Below.refl _ x8).alloc (Nat.le_refl _) (.cells #[.int .i64 1, .int .i64 2] 3)).trans (hb.mono (by simp))).mono HE.out.2.size)))
       clear hb)
    | (go_at_call 32; refine (jx_clear HJ9.out cS3 (by decide) 2).mono ?_; rw [cC2]; rintro r x12 ⟨rfl, hJ⟩; have HJ10 := Lib.hid hJ; clear hJ))
  go_ret
  exact ⟨by simp, HJ10.out.b⟩
end Go.Proofs.Ytlaakcgipecldaa
