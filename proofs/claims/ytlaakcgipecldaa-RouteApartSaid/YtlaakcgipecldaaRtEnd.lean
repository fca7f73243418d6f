/- A function's end behind several loops over iterators; sorting a slice of its own. No condition. -/
import Derived.Test.YtlaakcgipecldaaRtBox
import Derived.Test.YtlaakcgipecldaaSortI
import Derived.Sort.OwnSortedInts
namespace Go.Proofs.Ytlaakcgipecldaa
set_option linter.all false
open Go.RowKit

/-- The marks that loops over iterators have left, and their blocks. -/
def DS (n₀ : Nat) (ds : List Deferred) (w : World) : Prop := ∃ Ds : List Nat, ds = Ds.map (fun D => ({ target := .collected D, args := #[] } : Deferred)) ∧ Ds.Nodup ∧ ∀ D ∈ Ds, n₀ ≤ D ∧ w.heap[D]? = some (.deferred (some []))

theorem DS.nil (n₀ : Nat) (w : World) : DS n₀ [] w := ⟨[], rfl, List.nodup_nil, fun _ h => by cases h⟩
theorem DS.keep {n₀ : Nat} {ds : List Deferred} {w w' : World} (h : DS n₀ ds w) (hk : KeepsFrom 0 w w') : DS n₀ ds w' := by
  obtain ⟨Ds, h1, h2, h3⟩ := h
  exact ⟨Ds, h1, h2, fun D hD => ⟨(h3 D hD).1, hk.same D _ (Nat.zero_le _) (h3 D hD).2 rfl⟩⟩
theorem DS.cons {n₀ : Nat} {ds : List Deferred} {w w' : World} (h : DS n₀ ds w) (hk : KeepsFrom 0 w w') {D : Nat} (hn : n₀ ≤ w.heap.size) (hD : w.heap.size ≤ D) (hd : w'.heap[D]? = some (.deferred (some []))) :
    DS n₀ ({ target := .collected D, args := #[] } :: ds) w' := by
  obtain ⟨Ds, h1, h2, h3⟩ := h
  refine ⟨D :: Ds, by rw [h1]; rfl, List.nodup_cons.2 ⟨fun hm => ?_, h2⟩, fun D' hD' => ?_⟩
  · have := (Array.getElem?_eq_some_iff.1 (h3 D hm).2).1
    omega
  · rcases List.mem_cons.1 hD' with rfl | hm
    · exact ⟨by omega, hd⟩
    · exact ⟨(h3 D' hm).1, hk.same D' _ (Nat.zero_le _) (h3 D' hm).2 rfl⟩

theorem leaves_all {F : Fence} {n : Nat} {P : Program} {fn : Func} {tmps : Array Value} {R : Ending → World → Prop} {n₀ : Nat} (Φ : World → Prop)
    (hΦ : ∀ (w : World) (D : Nat) (o o' : Obj), Φ w → w.heap[D]? = some o → o.isCells = false → n₀ ≤ D → Φ (w.putObj D o')) (hend : ∀ w, Φ w → ∃ v, (results fn tmps).run P w = .ok v w ∧ R (.returned v) w) :
    ∀ (ds : List Deferred) (w : World), DS n₀ ds w → Φ w → LeavesInM F n P fn tmps R ds .returning w := by
  rintro ds w ⟨Ds, rfl, hnd, hD⟩ hw
  induction Ds generalizing w with
  | nil => exact hend w hw
  | cons D Ds ih =>
    obtain ⟨h1, h2⟩ := hD D (List.mem_cons_self ..)
    refine ⟨by simp, .inl ⟨D, _, rfl, run_takeDeferred h2, ?_⟩⟩
    refine ih _ (List.nodup_cons.1 hnd).2 (fun D' hD' => ?_) (hΦ w D _ _ hw h2 rfl h1)
    have hne : D' ≠ D := fun e => (List.nodup_cons.1 hnd).1 (by rw [← e]; exact hD')
    exact ⟨(hD D' (List.mem_cons_of_mem _ hD')).1, (World.putObj_heap_other hne).trans (hD D' (List.mem_cons_of_mem _ hD')).2⟩

/-- The list in rising order. -/
def risen (zs : List Int) : List Int := zs.mergeSort fun x y => decide (x ≤ y)
theorem risen_length (zs : List Int) : (risen zs).length = zs.length := (List.mergeSort_perm zs _).length_eq

theorem sort_any {w : World} {n₀ : Nat} {u : Value} (zs : List Int) (h : w.ownsRow n₀ 3 1 u zs.length (zs.map (Value.int .i64))) (hl : zs.length ≤ 1000) :
    Calls Try.prog 46 #[u] w fun e w' => e = .returned (.tuple #[]) ∧ w'.ownsRow n₀ 3 1 u zs.length ((risen zs).map (Value.int .i64)) ∧ w.grownBy w' u.ownBlock := by
  have hz : zs = [] → w.ownsRow n₀ 3 1 u zs.length ((risen zs).map (Value.int .i64)) := fun e => by subst e; simpa [risen] using h
  rcases h.2 with ⟨rfl, h0⟩ | ⟨g, cap, cur, rfl, hb, hg, hn, hcap, hsz, ht⟩
  · refine (slices_Sort_int_none none 0 w).mono ?_
    rintro e w' ⟨rfl, rfl⟩
    exact ⟨rfl, hz (List.eq_nil_of_length_eq_zero h0), rfl, rfl, rfl, Nat.le_refl _, fun _ _ _ => rfl⟩
  · by_cases h0 : zs = []
    · refine Calls.mono (R := fun e w' => e = .returned (.tuple #[]) ∧ w' = w) ?_ ?_
      · have := slices_Sort_int_none (some ⟨g, 0, none⟩) cap w
        rw [h0]
        exact this
      · rintro e w' ⟨rfl, rfl⟩
        exact ⟨rfl, hz h0, rfl, rfl, rfl, Nat.le_refl _, fun _ _ _ => rfl⟩
    · refine (slices_Sort_int g 0 cap zs w (holds_of_blockI hg (by rw [Nat.mul_one] at ht; exact ht)) (Array.getElem?_eq_some_iff.1 hg).1 (by omega)).mono ?_
      rintro e w' ⟨rfl, n, os, rfl⟩
      exact ⟨rfl, ownsRow_sortedI (risen_length zs) hb hg hn hcap hsz, grownBy_sortedI _⟩
end Go.Proofs.Ytlaakcgipecldaa
