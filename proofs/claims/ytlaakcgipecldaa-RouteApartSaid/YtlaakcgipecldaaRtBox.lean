/- Two slices of ints in two boxes, grown side by side; a region that draws its order inside a round of a loop over an iterator; a function's end behind many such loops. No condition. -/
import Derived.Test.YtlaakcgipecldaaRtIter
import Derived.Test.YtlaakcgipecldaaOwn
import Derived.OrdersIn
import Derived.Deep.AppendLies
namespace Go.Proofs.Ytlaakcgipecldaa
set_option linter.all false
open Go.RowKit

/-! ### A region inside a round -/
def onlyN (Q : Exit → Act → World → Prop) : Exit → Act → World → Prop := fun e a w => e = .normal ∧ Q .normal a w
theorem onlyN_out (Q : Exit → Act → World → Prop) : ¬ LetsOut (onlyN Q) := fun ⟨_, _, h⟩ => by cases h.1
theorem onlyN_pan {Q : Exit → Act → World → Prop} {a b : Act} {w : World} {c : List PanicEntry} (h : onlyN Q (.panic c) a w) : onlyN Q (.panic c) b w := by cases h.1

theorem opIn_round {l n : Nat} {P : Program} {o : Oper} {a : Act} {w : World} {K : Act → World → Prop} {Q : Exit → Act → World → Prop} (hnd : ∀ c, o.op ≠ .defer c) (h : o.wp P a w K (onlyN Q)) :
    o.wpIn (Fence.wide.inRound l) n P a w K Q := by
  unfold Oper.wp at h
  refine ⟨fun _ _ => trivial, ?_⟩
  rw [show (Fence.wide.inRound l).round = some l from rfl, Oper.semAt_some l _ _ hnd]
  generalize (execOp a.eval o).run P w = r at *
  cases r with
  | ok x w' =>
    cases x <;> simp only [Oper.upon] at h <;> simp only [Oper.uponIn] <;>
      first
        | exact h
        | exact h.elim
        | exact ⟨fun hh => (by cases hh), (CallsIn.inRound l (callsIn_wide.2 h)).mono fun e w'' he => (by
            cases e with
            | returned v => exact he
            | panicked c => cases he.1
            | outgrown => exact absurd he (onlyN_out Q))⟩
        | exact ⟨fun hh => (by cases hh), fun c cs _ => let ⟨v, w', r, s⟩ := h c cs; ⟨v, w', r, (stepsIn_wide.2 s : StepsIn (Machine.fenced P Fence.wide) P _ _)⟩⟩
  | halt x w' => cases x <;> simp only [Oper.upon] at h <;> simp only [Oper.uponIn] <;> first | exact h | exact h.elim | cases h.1

def noDefer (ops : Array Oper) : Bool := ops.all fun o => match o.op with | .defer _ => false | _ => true
theorem noDefer_spec {ops : Array Oper} (h : noDefer ops = true) {i : Nat} {o : Oper} (ho : ops[i]? = some o) (c : Call) : o.op ≠ .defer c := fun e => by
  unfold noDefer at h
  rw [Array.all_eq_true] at h
  obtain ⟨hi, rfl⟩ := Array.getElem?_eq_some_iff.1 ho
  have := h i hi
  rw [e] at this
  cases this

theorem anyIn_round {l n : Nat} {P : Program} {md : Region.Mode} {ops : Array Oper} {Q : Exit → Act → World → Prop} (hnd : noDefer ops = true) :
    ∀ (fuel : Nat) (listed : Array Bool) (a : Act) (w : World), wpAny P md ops (onlyN Q) fuel listed a w → wpAnyIn (Fence.wide.inRound l) n P md ops Q fuel listed a w
  | 0, _, _, _, h => ⟨h.1, h.2.2⟩
  | fuel + 1, listed, a, w, h => ⟨fun h0 => (h.1 h0).2, fun i hi => by
    have h2 := h.2 i hi
    unfold wpOp at h2
    unfold wpOpIn
    cases ho : ops[i]? with
    | none => simp only [ho] at h2 ⊢; exact anyIn_round hnd fuel _ _ _ h2
    | some o =>
      simp only [ho] at h2 ⊢
      split
      · rename_i hw
        simp only [hw, if_true] at h2
        rcases h2 with h2 | h2
        · exact Oper.wpIn_mono (fun a w h => anyIn_round hnd fuel _ a w h) (opIn_round (noDefer_spec hnd ho) h2)
        · exact absurd h2.2 (onlyN_out Q)
      · rename_i hw
        simp only [hw] at h2
        exact ⟨fun _ _ => trivial, anyIn_round hnd fuel _ _ _ h2⟩⟩

theorem region_round {l n : Nat} {P : Program} {id : Nat} {ops : Array Oper} {Q : Exit → Act → World → Prop} {a : Act} {w : World} (hm : P.follows .mixedOrders = true) (hnd : noDefer ops = true)
    (h : wpAny P .any ops (onlyN Q) ops.size (Array.replicate ops.size false) a w.drew) : (Code.region id ops true).wpIn (Fence.wide.inRound l) n P Q a w :=
  wpIn_region_any hm (anyIn_round hnd _ _ _ _ h)

/-! ### Two slices -/
structure RS (n₀ : Nat) (W0 : World) (B4 B5 Bf : Nat) (x v : Int) (b4 b5 vA : Value) (LA : List Int) (vO : Value) (LO : List Int) (ts : List Nat) (w : World) : Prop where
  keep : KeepsOthers W0 w
  below : Below n₀ W0 w
  bf : Blk w Bf 3 #[.int .i64 v]
  lf : n₀ ≤ Bf
  x4 : Boxed w B4 51 b4
  x5 : Boxed w B5 51 b5
  ne45 : B4 ≠ B5
  l4 : n₀ ≤ B4
  l5 : n₀ ≤ B5
  rA : w.ownsRow n₀ 3 1 vA LA.length (LA.map (Value.int .i64))
  rO : w.ownsRow n₀ 3 1 vO LO.length (LO.map (Value.int .i64))
  neA : vA.ownBlock ≠ vO.ownBlock
  fA : vA.ownBlock ≠ some Bf
  fO : vO.ownBlock ≠ some Bf
  tt : ∀ g ∈ ts, Boxed w g 3 (.int .i64 x) ∧ vA.ownBlock ≠ some g ∧ vO.ownBlock ≠ some g
  n0 : n₀ ≤ W0.heap.size

section
variable {n₀ : Nat} {W0 : World} {B4 B5 Bf : Nat} {x v : Int} {b4 b5 vA : Value} {LA : List Int} {vO : Value} {LO : List Int} {ts : List Nat} {w : World}

theorem own_cells {w : World} {base : Nat} {e : TypeId} {size : Nat} {u : Value} {k : Nat} {xs : List Value} (h : w.ownsRow base e size u k xs) {j : Nat} (hj : u.ownBlock = some j) :
    base ≤ j ∧ j < w.heap.size ∧ ∀ o, w.heap[j]? = some o → o.isCells = true := by
  rcases h.2 with ⟨rfl, _⟩ | ⟨g, cap, cur, rfl, hb, hg, _⟩
  · cases hj
  · cases hj
    exact ⟨hb, (Array.getElem?_eq_some_iff.1 hg).1, fun o ho => by rw [hg] at ho; cases ho; rfl⟩

theorem RS.lt4 (h : RS n₀ W0 B4 B5 Bf x v b4 b5 vA LA vO LO ts w) : n₀ ≤ w.heap.size := Nat.le_trans h.n0 h.below.size

/-- A step that writes one row's block alone, and new ones. -/
theorem RS.base (h : RS n₀ W0 B4 B5 Bf x v b4 b5 vA LA vO LO ts w) {w' : World} {row : Option Nat} (hg : w.grownBy w' row) (hrow : ∀ j, row = some j → n₀ ≤ j ∧ ∀ o, w.heap[j]? = some o → o.isCells = true) (hf : row ≠ some Bf) :
    KeepsOthers W0 w' ∧ Below n₀ W0 w' ∧ Blk w' Bf 3 #[.int .i64 v] :=
  ⟨h.keep.trans (KeepsOthers.of_grownBy hg fun j o e ho => (hrow j e).2 o ho), h.below.grown hg h.lt4 fun k e => (hrow k e).1,
    (hg.block Bf (Array.getElem?_eq_some_iff.1 h.bf).1 (fun e => hf e.symm)).trans h.bf⟩

theorem RS.drew (h : RS n₀ W0 B4 B5 Bf x v b4 b5 vA LA vO LO ts w) : RS n₀ W0 B4 B5 Bf x v b4 b5 vA LA vO LO ts w.drew :=
  ⟨h.keep.trans (KeepsOthers.drew w), h.below.drew, h.bf, h.lf, h.x4, h.x5, h.ne45, h.l4, h.l5, h.rA, h.rO, h.neA, h.fA, h.fO, h.tt, h.n0⟩

theorem lt_of_boxed {w : World} {g : Nat} {t : TypeId} {u : Value} (h : Boxed w g t u) : g < w.heap.size := h.lt

theorem own_lt {w : World} {base : Nat} {e : TypeId} {size : Nat} {u : Value} {k : Nat} {xs : List Value} (h : w.ownsRow base e size u k xs) : u.ownBlock ≠ some w.heap.size := fun e => by
  have := (own_cells h e).2.1
  omega

theorem kept_alloc {w : World} {o : Obj} {base : Nat} {e : TypeId} {size : Nat} {u : Value} {k : Nat} {xs : List Value} (h : w.ownsRow base e size u k xs) : (w.alloc o).ownsRow base e size u k xs :=
  h.kept (World.grownBy_alloc w o none) (by
    cases hu : u.ownBlock with
    | none => exact .inl rfl
    | some j => exact .inr (by simp))

theorem RS.alloc (h : RS n₀ W0 B4 B5 Bf x v b4 b5 vA LA vO LO ts w) : RS n₀ W0 B4 B5 Bf x v b4 b5 vA LA vO LO (w.heap.size :: ts) (w.alloc (.cells #[.int .i64 x] 3)) := by
  obtain ⟨hk, hb, hf⟩ := h.base (World.grownBy_alloc w (.cells #[.int .i64 x] 3) none) (fun j e => by cases e) (by simp)
  refine ⟨hk, hb, hf, h.lf, h.x4.alloc _, h.x5.alloc _, h.ne45, h.l4, h.l5, kept_alloc h.rA, kept_alloc h.rO, h.neA, h.fA, h.fO, fun g hg => ?_, h.n0⟩
  rcases List.mem_cons.1 hg with rfl | hg
  · exact ⟨Boxed.new w _ _, own_lt h.rA, own_lt h.rO⟩
  · obtain ⟨h1, h2, h3⟩ := h.tt g hg
    exact ⟨h1.alloc _, h2, h3⟩

/-- The first slice has grown. -/
theorem RS.appA (h : RS n₀ W0 B4 B5 Bf x v b4 b5 vA LA vO LO ts w) {g cap : Nat} {w' : World} (hown : w'.ownsRow n₀ 3 1 (.slice (some ⟨g, 0, none⟩) (LA.length + 1) cap) (LA.length + 1) (LA.map (Value.int .i64) ++ [.int .i64 x]))
    (hg : w.grownBy w' vA.ownBlock) (hat : vA.ownBlock = some g ∨ g = w.heap.size) : RS n₀ W0 B4 B5 Bf x v b4 b5 (.slice (some ⟨g, 0, none⟩) (LA.length + 1) cap) (LA ++ [x]) vO LO ts w' := by
  obtain ⟨hk, hb, hf⟩ := h.base hg (fun j e => ⟨(own_cells h.rA e).1, (own_cells h.rA e).2.2⟩) h.fA
  have hne : ∀ j, j < w.heap.size → vA.ownBlock ≠ some j → g ≠ j := fun j hj h1 e => by
    rcases hat with h2 | h2
    · exact h1 (by rw [h2, e])
    · omega
  refine ⟨hk, hb, hf, h.lf, h.x4.kept hg (h.x4.not_row (by decide) h.rA), h.x5.kept hg (h.x5.not_row (by decide) h.rA), h.ne45, h.l4, h.l5, by simpa using hown, h.rO.kept hg (.inr (fun e => h.neA e.symm)), ?_, ?_, h.fO, ?_, h.n0⟩
  · intro e
    have h1 : vO.ownBlock = some g := e.symm
    exact hne g (own_cells h.rO h1).2.1 (fun e2 => h.neA (e2.trans h1.symm)) rfl
  · intro e
    cases e
    exact hne _ (Array.getElem?_eq_some_iff.1 h.bf).1 h.fA rfl
  · intro j hj
    obtain ⟨h1, h2, h3⟩ := h.tt j hj
    exact ⟨h1.kept hg (fun e => h2 e.symm), fun e => (by cases e; exact hne _ h1.lt h2 rfl), h3⟩

/-- The second slice has grown. -/
theorem RS.appO (h : RS n₀ W0 B4 B5 Bf x v b4 b5 vA LA vO LO ts w) {g cap : Nat} {w' : World} (hown : w'.ownsRow n₀ 3 1 (.slice (some ⟨g, 0, none⟩) (LO.length + 1) cap) (LO.length + 1) (LO.map (Value.int .i64) ++ [.int .i64 x]))
    (hg : w.grownBy w' vO.ownBlock) (hat : vO.ownBlock = some g ∨ g = w.heap.size) : RS n₀ W0 B4 B5 Bf x v b4 b5 vA LA (.slice (some ⟨g, 0, none⟩) (LO.length + 1) cap) (LO ++ [x]) ts w' := by
  obtain ⟨hk, hb, hf⟩ := h.base hg (fun j e => ⟨(own_cells h.rO e).1, (own_cells h.rO e).2.2⟩) h.fO
  have hne : ∀ j, j < w.heap.size → vO.ownBlock ≠ some j → g ≠ j := fun j hj h1 e => by
    rcases hat with h2 | h2
    · exact h1 (by rw [h2, e])
    · omega
  refine ⟨hk, hb, hf, h.lf, h.x4.kept hg (h.x4.not_row (by decide) h.rO), h.x5.kept hg (h.x5.not_row (by decide) h.rO), h.ne45, h.l4, h.l5, h.rA.kept hg (.inr h.neA), by simpa using hown, ?_, h.fA, ?_, ?_, h.n0⟩
  · intro e
    have h1 : vA.ownBlock = some g := e
    exact hne g (own_cells h.rA h1).2.1 (fun e2 => h.neA (h1.trans e2.symm)) rfl
  · intro e
    cases e
    exact hne _ (Array.getElem?_eq_some_iff.1 h.bf).1 h.fO rfl
  · intro j hj
    obtain ⟨h1, h2, h3⟩ := h.tt j hj
    exact ⟨h1.kept hg (fun e => h3 e.symm), h2, fun e => (by cases e; exact hne _ h1.lt h3 rfl)⟩

theorem store_keeps (h : RS n₀ W0 B4 B5 Bf x v b4 b5 vA LA vO LO ts w) {B : Nat} {b u : Value} (hx : Boxed w B 51 b) (hl : n₀ ≤ B) :
    KeepsOthers W0 (w.setCell ⟨B, 0, none⟩ u) ∧ Below n₀ W0 (w.setCell ⟨B, 0, none⟩ u) ∧ Blk (w.setCell ⟨B, 0, none⟩ u) Bf 3 #[.int .i64 v] ∧ (w.setCell ⟨B, 0, none⟩ u).ownsRow n₀ 3 1 vA LA.length (LA.map (Value.int .i64)) ∧
    (w.setCell ⟨B, 0, none⟩ u).ownsRow n₀ 3 1 vO LO.length (LO.map (Value.int .i64)) ∧ ∀ g ∈ ts, Boxed (w.setCell ⟨B, 0, none⟩ u) g 3 (.int .i64 x) ∧ vA.ownBlock ≠ some g ∧ vO.ownBlock ≠ some g := by
  have hg := grownBy_setCell' w B u
  have hnt : ∀ {g t c}, Boxed w g 3 c → some g ≠ some B → Boxed (w.setCell ⟨B, 0, none⟩ u) g t c ∨ True := fun _ _ => .inr trivial
  have hfB : Bf ≠ B := fun e => by
    have h1 := h.bf
    unfold Blk at h1
    rw [e, show w.heap[B]? = _ from hx] at h1
    injection h1 with h1
    injection h1 with _ h1
    revert h1
    decide
  refine ⟨h.keep.trans (KeepsOthers.setCell _ _ _), h.below.setCell (p := ⟨B, 0, none⟩) hl u, (hg.block Bf (Array.getElem?_eq_some_iff.1 h.bf).1 (fun e => hfB (by cases e; rfl))).trans h.bf,
    h.rA.kept hg (.inr (hx.not_row (by decide) h.rA).symm), h.rO.kept hg (.inr (hx.not_row (by decide) h.rO).symm), fun g hgt => ?_⟩
  obtain ⟨h1, h2, h3⟩ := h.tt g hgt
  refine ⟨h1.kept hg (fun e => ?_), h2, h3⟩
  cases e
  have h4 := (show w.heap[B]? = _ from h1).symm.trans hx
  injection h4 with h4
  injection h4 with _ h4
  revert h4
  decide

theorem RS.sto5 (h : RS n₀ W0 B4 B5 Bf x v b4 b5 vA LA vO LO ts w) (u : Value) : RS n₀ W0 B4 B5 Bf x v b4 u vA LA vO LO ts (w.setCell ⟨B5, 0, none⟩ u) := by
  obtain ⟨h1, h2, h3, h4, h5, h6⟩ := store_keeps (u := u) h h.x5 h.l5
  exact ⟨h1, h2, h3, h.lf, h.x4.other h.ne45 u, h.x5.set u, h.ne45, h.l4, h.l5, h4, h5, h.neA, h.fA, h.fO, h6, h.n0⟩
theorem RS.sto4 (h : RS n₀ W0 B4 B5 Bf x v b4 b5 vA LA vO LO ts w) (u : Value) : RS n₀ W0 B4 B5 Bf x v u b5 vA LA vO LO ts (w.setCell ⟨B4, 0, none⟩ u) := by
  obtain ⟨h1, h2, h3, h4, h5, h6⟩ := store_keeps (u := u) h h.x4 h.l4
  exact ⟨h1, h2, h3, h.lf, h.x4.set u, h.x5.other h.ne45.symm u, h.ne45, h.l4, h.l5, h4, h5, h.neA, h.fA, h.fO, h6, h.n0⟩
end
end Go.Proofs.Ytlaakcgipecldaa
