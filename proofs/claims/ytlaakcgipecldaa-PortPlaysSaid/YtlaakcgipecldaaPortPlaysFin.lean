/- For every input the law 'PortPlays' answers true, and leaves its arguments as they were: the given statement, out of the walk of the law. No condition. -/
import Derived.Test.YtlaakcgipecldaaRows
import Derived.Test.YtlaakcgipecldaaArgs
import Derived.Test.YtlaakcgipecldaaPortPlays
namespace Go.Proofs.Ytlaakcgipecldaa.portPlays
open Go.ChangeShapes Go.WideShapes Go.ChangeAt Go.RowKit Go.Deep
open Go.ChangeMaps (open_string shut_string)
set_option linter.all false

theorem own : ownKnob Try.prog.godebug = none := by kernel_rfl
theorem laidOut : laidOutB Try.prog = true := by kernel_rfl

set_option maxRecDepth 100000 in
theorem lifted (os : Os) (started : os.Started) (H : Type) (enc : TypeId × Value → H) :
    ReturnsInHanded {} Try.checked os 4 .any (Rows.portPlaysSpec.pre6 enc Try.prog Try.f4 Rows.portPlaysRow.domain false) (Rows.portPlaysSpec.post enc Try.prog Try.f4 false true false false) := by
  refine returnsInHanded_of_change (C := Try.checked) own started (by kernel_rfl) Try.func4
    (ChangeSpec.witness6 (enc := enc) (C := Try.checked) false ⟨#[], #[.agg #[.int .i64 0, .int .i64 0, .int .i64 0, .int .i64 0, .int .i64 0, .int .i64 0], .slice none 0 0], []⟩ 8 (by kernel_rfl) (by kernel_rfl) (by kernel_rfl) (by kernel_rfl)) ?_
  intro W base args ds gs before hval0 hW hcnd _
  have hval : ∀ (j : Nat) t v, Try.f4.params[j]? = some t → args[j]? = some v → Value.okWide Try.prog W .any base t v := hval0
  have hW' := hW
  obtain ⟨p, q, hA0, hV, rfl, hfz, hnd⟩ := hW
  have hA : DataW.TrodAll enc Try.prog W 0 (fun _ => true) true Try.f4.params.toList args.toList ds p := hA0
  rw [Try.params4] at hA hval
  obtain ⟨v0, vs0, d0, ds0, p0, q0, hargs, rfl, rfl, h0, rr0⟩ := trodAll_cons hA
  obtain ⟨v1, vs1, d1, ds1, p1, q1, rfl, rfl, rfl, h1, rr1⟩ := trodAll_cons rr0
  obtain ⟨rfl, rfl, rfl⟩ := trodAll_nil rr1
  obtain rfl : args = #[v0, v1] := by cases args; simp_all
  obtain ⟨rfl, rfl⟩ := trodVars_none hV
  have lt0 : ∀ x ∈ p0, x.block < W.heap.size := by obtain ⟨m, hm⟩ := h0; exact DataW.trod_lt m _ _ _ hm
  have fit0 := open_val (ls := [.int .i64, .int .i64, .int .i64, .int .i64, .int .i64, .int .i64]) (n := 8) (by kernel_rfl) h0
  obtain ⟨cs0, rfl, sz0⟩ := okWide_struct Try.underlying30 (hval 0 30 v0 rfl rfl)
  have sz0' : cs0.size = 6 := sz0.trans (by kernel_rfl)
  obtain ⟨v0_0, e0_0, a0_0, rfl, w0_0⟩ := fit0 0 (.int .i64) rfl
  obtain ⟨v0_1, e0_1, a0_1, rfl, w0_1⟩ := fit0 1 (.int .i64) rfl
  obtain ⟨v0_2, e0_2, a0_2, rfl, w0_2⟩ := fit0 2 (.int .i64) rfl
  obtain ⟨v0_3, e0_3, a0_3, rfl, w0_3⟩ := fit0 3 (.int .i64) rfl
  obtain ⟨v0_4, e0_4, a0_4, rfl, w0_4⟩ := fit0 4 (.int .i64) rfl
  obtain ⟨v0_5, e0_5, a0_5, rfl, w0_5⟩ := fit0 5 (.int .i64) rfl
  obtain rfl : cs0 = #[.int .i64 a0_0, .int .i64 a0_1, .int .i64 a0_2, .int .i64 a0_3, .int .i64 a0_4, .int .i64 a0_5] := by
    apply Array.ext'
    apply List.ext_getElem?
    intro q
    match q with
    | 0 => simpa [Value.cells] using e0_0
    | 1 => simpa [Value.cells] using e0_1
    | 2 => simpa [Value.cells] using e0_2
    | 3 => simpa [Value.cells] using e0_3
    | 4 => simpa [Value.cells] using e0_4
    | 5 => simpa [Value.cells] using e0_5
    | q + 6 => simp [sz0']
  have lt1 : ∀ x ∈ p1, x.block < W.heap.size := by obtain ⟨m, hm⟩ := h1; exact DataW.trod_lt m _ _ _ hm
  obtain ⟨A1, n1, c1, Z1, rfl, m1, r1⟩ := open_rd (ls := [.int .i64, .int .i64, .str]) (n := 8) (e := 42) Try.underlying36 (by kernel_rfl) (by kernel_rfl) (by decide) (hval 1 36 v1 rfl rfl) h1
  clear hA0 hval0
  refine (portPlays_core W a0_0 (wf_bounds w0_0) a0_1 (wf_bounds w0_1) a0_2 (wf_bounds w0_2) a0_3 (wf_bounds w0_3) a0_4 (wf_bounds w0_4) a0_5 (wf_bounds w0_5) A1 n1 c1 Z1 m1 r1).mono fun e W' ⟨he, bel⟩ => ?_
  subst he
  exact ⟨_, rfl, _, _, _, [], _, [], hW', trodAll_mk1 (shut_bool Try.underlying4 _), (trodAll_cons_mk (Below.trod laidOut (by kernel_rfl) (of_decide_eq_true (by kernel_rfl)) h0 bel lt0) (trodAll_cons_mk (Below.trod laidOut (by kernel_rfl) (of_decide_eq_true (by kernel_rfl)) h1 bel lt1) trodAll_mk0)), rfl, bel.frame _, fun h => by cases h⟩

theorem over : Rows.portPlaysRow.holds Try.pinned (OpenSpec.ofChange Rows.portPlaysSpec) :=
  OpenClaim.holds_of_wide 4 Try.f4 rfl rfl rfl rfl rfl rfl rfl ⟨rfl, rfl, rfl, rfl, rfl⟩ rfl rfl rfl rfl rfl (by kernel_rfl) Try.func4 (by kernel_rfl)
    (of_decide_eq_true (by kernel_rfl)) (by unfold Func.isWrapper; first | (rw [if_pos (by decide +kernel)]; kernel_rfl) | (rw [if_neg (by decide +kernel)]; exact ⟨rfl, rfl⟩))
    (fun os started H enc _ => lifted os started H enc)

/-- The given statement. -/
theorem proved : Rows.PortPlaysSaid := over
#print axioms proved
end Go.Proofs.Ytlaakcgipecldaa.portPlays
