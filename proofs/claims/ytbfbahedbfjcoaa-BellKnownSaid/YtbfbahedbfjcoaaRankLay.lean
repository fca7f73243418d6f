/- Package rank: the walk of lay. -/
import Derived.Test.YtbfbahedbfjcoaaRank3
namespace Go.Proofs.Ytbfbahedbfjcoaa
set_option linter.all false
open Go.RowKit

set_option maxRecDepth 100000 in
set_option maxHeartbeats 2000000 in
theorem lay_any {w : World} {h gl n cap : Nat} {I K Pl : Nat → Int} (hp : HpP w h gl n cap I K Pl) (i id : Nat) (k : Int) (hi : i < n) (hid : id < 64) (hn : n ≤ 64) :
    Calls Try.prog 45 #[.pointer (some ⟨h, 0, none⟩), .int .i64 i, .agg #[.int .i64 id, .int .i64 k]] w fun r w' => r = .returned (.tuple #[]) ∧ HpP w' h gl n cap (updP I i id) (updP K i k) (updP Pl id (i + 1)) ∧ Upd (fun q => q = h ∨ q = gl) w w' := by
  have HP := Lib.hid hp
  have e0 : w.cell? ⟨h, 0, none⟩ = some (.slice (some ⟨gl, 0, none⟩) n cap) := by rw [hp.hb.cell]; exact hpA_0 _ _
  obtain ⟨c0, c1⟩ := hp.cells hi
  have f0 := hp.frozen (i * 2)
  have f1 := hp.frozen (i * 2 + 1)
  have d0 : w.cell? ⟨h, 1 + id, none⟩ = some (.int .i64 (Pl id)) := by rw [hp.hb.cell]; exact hpA_at _ _ _ hid
  have g0 := hp.hb.frozen (1 + id)
  have hx0 : (0 : Int) ≤ i := by omega
  have hx1 : (i : Int) < n := by omega
  have hx2 : (0 : Int) ≤ id := by omega
  have hx3 : (id : Int) < 64 := by omega
  have hne : h ≠ gl := hp.ne
  have hlt := hp.hb.lt
  have hltg : gl < w.heap.size := by obtain ⟨cur, hb, _⟩ := hp.row; exact hb.lt
  have w1 : IntKind.i64.wrap ((i : Int) + 1) = (i : Int) + 1 := IntWalk.i64_in _ (by omega)
  clear hp
  go_enter Try.func45, Try.ntmps45
  go_wp2_with fail
  go_region
  have hy := ((HP.out.setX i (id : Int) k).alloc (.cells #[.int .i64 id, .int .i64 k] 69)).drew
  have hbx : Blk ((((w.setCell ⟨gl, i * 2, none⟩ (.int .i64 id)).setCell ⟨gl, i * 2 + 1, none⟩ (.int .i64 k)).alloc (.cells #[.int .i64 id, .int .i64 k] 69)).drew) w.heap.size 69 #[.int .i64 id, .int .i64 k] := by
    have := (Blk.new ((w.setCell ⟨gl, i * 2, none⟩ (.int .i64 id)).setCell ⟨gl, i * 2 + 1, none⟩ (.int .i64 k)) 69 #[.int .i64 id, .int .i64 k]).drew
    simpa using this
  have hu : Upd (fun q => q = h ∨ q = gl) w ((((w.setCell ⟨gl, i * 2, none⟩ (.int .i64 id)).setCell ⟨gl, i * 2 + 1, none⟩ (.int .i64 k)).alloc (.cells #[.int .i64 id, .int .i64 k] 69)).drew) :=
    ((((Upd.refl _ _).setCell (p := ⟨gl, i * 2, none⟩) (fun _ => Or.inr rfl) _).setCell (p := ⟨gl, i * 2 + 1, none⟩) (fun _ => Or.inr rfl) _).alloc _).drew
  generalize ((((w.setCell ⟨gl, i * 2, none⟩ (.int .i64 id)).setCell ⟨gl, i * 2 + 1, none⟩ (.int .i64 k)).alloc (.cells #[.int .i64 id, .int .i64 k] 69)).drew) = y at hy hbx hu ⊢
  clear e0 c0 c1 f0 f1 d0 g0
  have e0 := hbx.cell 0
  simp at e0
  have d0 : y.cell? ⟨h, 1 + id, none⟩ = some (.int .i64 (Pl id)) := by rw [hy.hb.cell]; exact hpA_at _ _ _ hid
  have g0 := hy.hb.frozen (1 + id)
  have HY := Lib.hid (And.intro hy hu)
  clear hy hbx hu
  go_wp2_with fail
  go_region
  all_goals
    go_wp2_with fail
    refine bodyPost_end (v := .tuple #[]) (by simp [results, Try.results45]) rfl ⟨rfl, ?_, ?_⟩
    · exact (HY.out.1.setPl id ((i : Int) + 1)).drew
    · exact (HY.out.2.setCell (p := ⟨h, 1 + id, none⟩) (fun _ => Or.inl rfl) _).drew
end Go.Proofs.Ytbfbahedbfjcoaa
