/- The copied row is put to zero, port by port; both stand alike; both lengths. No condition. -/
import Derived.Test.YtlaakcgipecldaaRtPorts2
namespace Go.Proofs.Ytlaakcgipecldaa
set_option linter.all false
open Go.RowKit

def zW (w : World) (g q : Nat) : World := (((((w.setCell ⟨g, q, none⟩ (.int .i64 0)).setCell ⟨g, q + 1, none⟩ (.int .i64 0)).setCell ⟨g, q + 2, none⟩ (.int .i64 0)).setCell ⟨g, q + 3, none⟩ (.int .i64 0)).setCell ⟨g, q + 4, none⟩ (.int .i64 0)).setCell ⟨g, q + 5, none⟩ (.int .i64 0)
theorem ir_zero {x2 wr : World} {X : Nat → Prop} {g i : Nat} {Ps : List PV} {cur : Array Value} (hu : Upd X x2 wr) (hX : X g) (h : IR wr g Ps i cur) : Upd X x2 (zW wr g (i * 6)) ∧ ∃ cur', IR (zW wr g (i * 6)) g Ps (i + 1) cur' := by
  refine ⟨(((((hu.setCell (p := ⟨g, _, none⟩) (fun _ => hX) _).setCell (p := ⟨g, _, none⟩) (fun _ => hX) _).setCell (p := ⟨g, _, none⟩) (fun _ => hX) _).setCell (p := ⟨g, _, none⟩) (fun _ => hX) _).setCell (p := ⟨g, _, none⟩) (fun _ => hX) _).setCell (p := ⟨g, _, none⟩) (fun _ => hX) _,
    _, ⟨(((((h.b.set_ _ _).set_ _ _).set_ _ _).set_ _ _).set_ _ _).set_ _ _, by simpa using h.sz, fun j hj hij r hr => ?_⟩⟩
  have h2 := h.at_ j hj (by omega) r hr
  rw [Array.getElem?_setIfInBounds_ne (by omega), Array.getElem?_setIfInBounds_ne (by omega), Array.getElem?_setIfInBounds_ne (by omega), Array.getElem?_setIfInBounds_ne (by omega), Array.getElem?_setIfInBounds_ne (by omega), Array.getElem?_setIfInBounds_ne (by omega)]
  exact h2

theorem js_of {w w1 x1 x2 wr : World} {rp rp' : Nat} {L : List RE} (hc : Below w.heap.size w w1) (h1 : FrP w1.heap.size x1 rp L) (hb1 : Below w1.heap.size w1 x1) (h2 : FrR x1.heap.size x2 rp' L) (hb2 : Below x1.heap.size x1 x2)
    (hu : Upd (fun k => w.heap.size ≤ k ∧ k < w1.heap.size) x2 wr) (ho : Sound L) (hl : L.length ≤ 8) : JS w wr rp rp' L := by
  obtain ⟨S, F, A, hs, gs, p1, p2, p3⟩ := h1
  obtain ⟨S', F', A', gs', r1, r2, r3⟩ := h2
  have z0 := hc.size
  have z1 := hb1.size
  have z2 := hb2.size
  have z3 := hu.size
  have q1 := p1.far (Upd.of_below hb2) (fun k hk => by have := p1.ft.sl k hk; omega) (fun i hi k hk => by have := p1.ft.fl i hi k hk; omega)
  have q2 := q1.far hu (fun k hk hx => by have := p2 k hk; omega) (fun i hi k hk hx => by have := p3 i hi k hk; omega)
  have q3 := r1.far hu (fun k hk hx => by have := r2 k hk; omega) (fun i hi k hk hx => by have := r3 i hi k hk; omega)
  have hP : ∀ k, PX S F L.length k → w1.heap.size ≤ k ∧ k < x1.heap.size := fun k hk => by
    refine ⟨?_, PX.lt p1 hk⟩
    rcases hk with hk | ⟨j, hj, hk⟩
    · exact p2 k hk
    · exact p3 j hj k hk
  have hR : ∀ k, PX S' F' L.length k → x1.heap.size ≤ k ∧ k < x2.heap.size := fun k hk => by
    rcases hk with hk | ⟨j, hj, hk⟩
    · exact ⟨r2 k hk, r1.ft.sl k hk⟩
    · exact ⟨r3 j hj k hk, r1.ft.fl j hj k hk⟩
  have hB : Below w.heap.size w x2 := (hc.trans (hb1.mono z0)).trans (hb2.mono (by omega))
  refine ⟨⟨⟨S, F, A, hs, gs, PX S' F' L.length, q2, ⟨S', F', A', gs', q3, fun _ h => h⟩, fun k hk => ⟨by have := hP k hk; omega, fun hy => by have := hP k hk; have := hR k hy; omega⟩, fun k hk => by have := hR k hk; omega⟩, below_upd hB hu (fun k hk => hk.1), OP.of _ _⟩, ho, hl⟩

def lenV (L : List RE) (p : Int) : Int := if h : 0 ≤ p ∧ p.toNat < L.length then (L[p.toNat]'h.2).s.L.length else 0
section
variable {w x : World} {rp rp' : Nat} {L : List RE}
theorem js_len_p {O : World → (Nat → Prop) → Prop} (h : JX w x rp L O) (ho : Sound L) (p : Int) :
    Calls Try.prog 26 #[.pointer (some ⟨rp, 0, none⟩), .int .i64 p] x fun e x' => e = .returned (.int .i64 (lenV L p)) ∧ x = x' := by
  unfold lenV
  by_cases hp : 0 ≤ p ∧ p.toNat < L.length
  · rw [dif_pos hp]
    obtain ⟨k, rfl⟩ : ∃ k : Nat, p = k := ⟨p.toNat, by omega⟩
    exact jx_len_in h ho k hp.2
  · rw [dif_neg hp]
    exact jx_len_out h p (by omega)
theorem js_len_r (h : JS w x rp rp' L) (p : Int) :
    Calls Try.prog 27 #[.pointer (some ⟨rp', 0, none⟩), .int .i64 p] x fun e x' => e = .returned (.int .i64 (lenV L p)) ∧ x = x' := by
  unfold lenV
  by_cases hp : 0 ≤ p ∧ p.toNat < L.length
  · rw [dif_pos hp]
    obtain ⟨k, rfl⟩ : ∃ k : Nat, p = k := ⟨p.toNat, by omega⟩
    exact jr_len_in h.j h.o k hp.2
  · rw [dif_neg hp]
    exact jr_len_out h.j p (by omega)
end
end Go.Proofs.Ytlaakcgipecldaa
