/- Package rank, plain: heaps by key and id, what rises and what sinks. -/
import Derived.Test.YtbfbahedbfjcoaaRankAt
namespace Go.Proofs.Ytbfbahedbfjcoaa
set_option linter.all false

structure HS where
  I : Nat → Int
  K : Nat → Int
  Pl : Nat → Int
def layS (i : Nat) (id k : Int) (s : HS) : HS := ⟨updP s.I i id, updP s.K i k, updP s.Pl id.toNat (i + 1)⟩

/-- The heap of n has just the ids that have a key in M. -/
structure RepP (n : Nat) (s : HS) (M : Nat → Option Int) : Prop where
  at_ : ∀ j, j < n → ∃ x : Nat, x < 64 ∧ s.I j = x ∧ M x = some (s.K j) ∧ s.Pl x = j + 1
  of_ : ∀ (x : Nat) k, M x = some k → x < 64 ∧ ∃ j, j < n ∧ s.I j = x
  no_ : ∀ x : Nat, x < 64 → M x = none → s.Pl x = 0

def EdgeP (s : HS) (p j : Nat) : Prop := ¬ AheadP (s.I j) (s.K j) (s.I p) (s.K p)
def HeapP (n : Nat) (s : HS) : Prop := ∀ j, 0 < j → j < n → EdgeP s ((j - 1) / 2) j
structure UpI (st : Prop) (n a : Nat) (s : HS) : Prop where
  e : ∀ j, 0 < j → j < n → j ≠ a → (j - 1) / 2 ≠ a → EdgeP s ((j - 1) / 2) j
  g : 0 < a → ∀ j, 0 < j → j < n → (j - 1) / 2 = a → EdgeP s ((a - 1) / 2) j
  s : st → ∀ j, 0 < j → j < n → (j - 1) / 2 = a → EdgeP s a j
structure DownI (n a : Nat) (s : HS) : Prop where
  e : ∀ j, 0 < j → j < n → (j - 1) / 2 ≠ a → EdgeP s ((j - 1) / 2) j
  g : 0 < a → ∀ j, 0 < j → j < n → (j - 1) / 2 = a → EdgeP s ((a - 1) / 2) j

theorem layS_I (i : Nat) (id k : Int) (s : HS) (j : Nat) : (layS i id k s).I j = if j = i then id else s.I j := rfl
theorem layS_K (i : Nat) (id k : Int) (s : HS) (j : Nat) : (layS i id k s).K j = if j = i then k else s.K j := rfl
theorem layS_Pl (i : Nat) (id k : Int) (s : HS) (j : Nat) : (layS i id k s).Pl j = if j = id.toNat then (i : Int) + 1 else s.Pl j := rfl

/-- What lies in a hole is moved from one place to another one. -/
theorem rep_swap {n a p : Nat} {x : Nat} {k : Int} {s : HS} {M : Nat → Option Int} (h : RepP n (layS a x k s) M) (hp : p < n) (ha : a < n) (hne : p ≠ a) :
    RepP n (layS p x k (layS a (s.I p) (s.K p) s)) M := by
  obtain ⟨x', hx1, hx2, hx3, hx4⟩ := h.at_ a ha
  rw [layS_I, if_pos rfl] at hx2
  rw [layS_K, if_pos rfl] at hx3
  obtain rfl : x = x' := by omega
  clear hx2 hx4
  obtain ⟨y, hy1, hy2, hy3, hy4⟩ := h.at_ p hp
  rw [layS_I, if_neg hne] at hy2
  rw [layS_K, if_neg hne] at hy3
  have hyx : y ≠ x := by
    rintro rfl
    rw [layS_Pl, if_pos (by omega)] at hy4
    omega
  rw [layS_Pl, if_neg (by omega)] at hy4
  refine ⟨fun j hj => ?_, fun z kz hz => ?_, fun z hz hn => ?_⟩
  · rw [layS_I, layS_K]
    by_cases hjp : j = p
    · refine ⟨x, hx1, by rw [if_pos hjp], by rw [if_pos hjp]; exact hx3, ?_⟩
      rw [layS_Pl, if_pos (by omega), hjp]
    · rw [if_neg hjp, if_neg hjp, layS_I, layS_K]
      by_cases hja : j = a
      · refine ⟨y, hy1, by rw [if_pos hja]; exact hy2, by rw [if_pos hja]; exact hy3, ?_⟩
        rw [layS_Pl, if_neg (by omega), layS_Pl, if_pos (by omega), hja]
      · rw [if_neg hja, if_neg hja]
        obtain ⟨z, hz1, hz2, hz3, hz4⟩ := h.at_ j hj
        rw [layS_I, if_neg hja] at hz2
        rw [layS_K, if_neg hja] at hz3
        have hzx : z ≠ x := by
          rintro rfl
          rw [layS_Pl, if_pos (by omega)] at hz4
          omega
        rw [layS_Pl, if_neg (by omega)] at hz4
        have hzy : z ≠ y := by
          rintro rfl
          omega
        exact ⟨z, hz1, hz2, hz3, by rw [layS_Pl, if_neg (by omega), layS_Pl, if_neg (by omega)]; exact hz4⟩
  · obtain ⟨h1, j, hj, hjz⟩ := h.of_ z kz hz
    refine ⟨h1, ?_⟩
    rw [layS_I] at hjz
    by_cases hja : j = a
    · rw [if_pos hja] at hjz
      exact ⟨p, hp, by rw [layS_I, if_pos rfl]; exact hjz⟩
    · rw [if_neg hja] at hjz
      by_cases hjp : j = p
      · subst hjp
        exact ⟨a, ha, by rw [layS_I, if_neg (by omega), layS_I, if_pos rfl]; exact hjz⟩
      · exact ⟨j, hj, by rw [layS_I, if_neg hjp, layS_I, if_neg hja]; exact hjz⟩
  · have h0 := h.no_ z hz hn
    have hzx : z ≠ x := by rintro rfl; rw [hn] at hx3; cases hx3
    have hzy : z ≠ y := by rintro rfl; rw [hn] at hy3; cases hy3
    rw [layS_Pl, if_neg (by omega)] at h0
    rw [layS_Pl, if_neg (by omega), layS_Pl, if_neg (by omega)]
    exact h0

theorem up_step {st : Prop} {n a : Nat} {x k : Int} {s : HS} (h : UpI st n a (layS a x k s)) (ha0 : 0 < a) (ha : a < n) (hx : AheadP x k (s.I ((a - 1) / 2)) (s.K ((a - 1) / 2))) :
    UpI True n ((a - 1) / 2) (layS ((a - 1) / 2) x k (layS a (s.I ((a - 1) / 2)) (s.K ((a - 1) / 2)) s)) := by
  obtain ⟨he, hg, _⟩ := h
  have hg := hg ha0
  obtain ⟨p, hp⟩ : ∃ p, (a - 1) / 2 = p := ⟨_, rfl⟩
  rw [hp] at hx hg ⊢
  have hpa : p ≠ a := by omega
  unfold EdgeP AheadP at *
  simp only [layS_I, layS_K] at he hg
  refine ⟨fun j h0 hj hjp hpj => ?_, fun hp0 j h0 hj hpj => ?_, fun _ j h0 hj hpj => ?_⟩ <;> (unfold EdgeP AheadP; simp only [layS_I, layS_K])
  · by_cases hja : j = a
    · omega
    · have hja2 : (j - 1) / 2 = a → ¬ AheadP (s.I j) (s.K j) (s.I p) (s.K p) := fun e => by
        have := hg j h0 hj e
        unfold AheadP
        simpa only [if_neg hja, if_neg hpa] using this
      unfold AheadP at hja2
      rw [if_neg hjp, if_neg hjp, if_neg hpj, if_neg hpj, if_neg hja, if_neg hja]
      by_cases hj2 : (j - 1) / 2 = a
      · rw [if_pos hj2, if_pos hj2]
        exact hja2 hj2
      · rw [if_neg hj2, if_neg hj2]
        have := he j h0 hj hja hj2
        rwa [if_neg hja, if_neg hja, if_neg hj2, if_neg hj2] at this
  · -- children of p against the parent of p
    have hq : (p - 1) / 2 ≠ p := by omega
    have hqa : (p - 1) / 2 ≠ a := by omega
    have hjp : j ≠ p := by omega
    rw [if_neg hjp, if_neg hjp, if_neg hq, if_neg hq, if_neg hqa, if_neg hqa]
    have e1 := he p (by omega) (by omega) hpa (by omega)
    rw [if_neg hpa, if_neg hpa, if_neg hqa, if_neg hqa] at e1
    by_cases hja : j = a
    · rw [if_pos hja, if_pos hja]
      exact e1
    · rw [if_neg hja, if_neg hja]
      have e2 := he j h0 hj hja (by omega)
      rw [if_neg hja, if_neg hja, hpj, if_neg hpa, if_neg hpa] at e2
      omega
  · have hjp : j ≠ p := by omega
    rw [if_neg hjp, if_neg hjp]
    simp only [if_true]
    by_cases hja : j = a
    · rw [if_pos hja, if_pos hja]
      omega
    · rw [if_neg hja, if_neg hja]
      have e2 := he j h0 hj hja (by omega)
      rw [if_neg hja, if_neg hja, hpj, if_neg hpa, if_neg hpa] at e2
      omega

theorem up_end {st : Prop} {n a : Nat} {x k : Int} {s : HS} (h : UpI st n a (layS a x k s)) (hx : 0 < a → ¬ AheadP x k (s.I ((a - 1) / 2)) (s.K ((a - 1) / 2))) :
    DownI n a (layS a x k s) ∧ (st → HeapP n (layS a x k s)) := by
  have key : 0 < a → EdgeP (layS a x k s) ((a - 1) / 2) a := fun h0 => by
    have := hx h0
    unfold EdgeP
    rw [layS_I, layS_K, layS_I, layS_K, if_pos rfl, if_pos rfl, if_neg (by omega), if_neg (by omega)]
    exact this
  refine ⟨⟨fun j h0 hj hp => ?_, h.g⟩, fun hst j h0 hj => ?_⟩
  · by_cases hja : j = a
    · subst hja; exact key h0
    · exact h.e j h0 hj hja hp
  · by_cases hp : (j - 1) / 2 = a
    · rw [hp]; exact h.s hst j h0 hj hp
    · by_cases hja : j = a
      · subst hja; exact key h0
      · exact h.e j h0 hj hja hp

/-- The smaller child c, ahead of what sinks, comes up. -/
theorem down_step {n a c : Nat} {x k : Int} {s : HS} (h : DownI n a (layS a x k s)) (hc : c < n) (hca : 0 < c ∧ (c - 1) / 2 = a) (hx : AheadP (s.I c) (s.K c) x k)
    (hm : ∀ j, 0 < j → j < n → (j - 1) / 2 = a → ¬ AheadP (s.I j) (s.K j) (s.I c) (s.K c)) :
    DownI n c (layS c x k (layS a (s.I c) (s.K c) s)) := by
  obtain ⟨he, hg⟩ := h
  obtain ⟨hc0, hca⟩ := hca
  have hac : a ≠ c := by omega
  unfold EdgeP AheadP at *
  simp only [layS_I, layS_K] at he hg
  refine ⟨fun j h0 hj hp => ?_, fun _ j h0 hj hp => ?_⟩ <;> (unfold EdgeP AheadP; simp only [layS_I, layS_K])
  · rw [if_neg hp, if_neg hp]
    by_cases hjc : j = c
    · rw [if_pos hjc, if_pos hjc, if_pos (by omega), if_pos (by omega)]
      omega
    · rw [if_neg hjc, if_neg hjc]
      by_cases hja : j = a
      · rw [if_pos hja, if_pos hja, if_neg (by omega), if_neg (by omega)]
        have := hg (by omega) c hc0 hc hca
        rw [if_neg hac.symm, if_neg hac.symm, if_neg (by omega), if_neg (by omega)] at this
        rw [hja]
        exact this
      · rw [if_neg hja, if_neg hja]
        by_cases hp2 : (j - 1) / 2 = a
        · rw [if_pos hp2, if_pos hp2]
          exact hm j h0 hj hp2
        · rw [if_neg hp2, if_neg hp2]
          have := he j h0 hj hp2
          rwa [if_neg hja, if_neg hja, if_neg hp2, if_neg hp2] at this
  · have hjc : j ≠ c := by omega
    have hja : j ≠ a := by omega
    rw [if_neg hjc, if_neg hjc, if_neg hja, if_neg hja, hca, if_neg hac, if_neg hac, if_pos rfl, if_pos rfl]
    have := he j h0 hj (by omega)
    rwa [if_neg hja, if_neg hja, hp, if_neg hac.symm, if_neg hac.symm] at this

theorem down_end {n a : Nat} {x k : Int} {s : HS} (h : DownI n a (layS a x k s)) (hm : ∀ j, 0 < j → j < n → (j - 1) / 2 = a → ¬ AheadP (s.I j) (s.K j) x k) : HeapP n (layS a x k s) := by
  intro j h0 hj
  by_cases hp : (j - 1) / 2 = a
  · have := hm j h0 hj hp
    unfold EdgeP
    rw [hp, layS_I, layS_K, layS_I, layS_K, if_pos rfl, if_pos rfl, if_neg (by omega), if_neg (by omega)]
    exact this
  · exact h.e j h0 hj hp

/-- The first one is behind none. -/
theorem heap_root {n : Nat} {s : HS} (h : HeapP n s) : ∀ j, j < n → ¬ AheadP (s.I j) (s.K j) (s.I 0) (s.K 0) := by
  intro j
  induction j using Nat.strongRecOn with
  | _ j ih =>
    intro hj
    by_cases h0 : j = 0
    · subst h0; unfold AheadP; omega
    · have h1 := h j (by omega) hj
      have h2 := ih ((j - 1) / 2) (by omega) (by omega)
      unfold EdgeP AheadP at *
      omega

/-- One more id at the end. -/
theorem rep_put {n : Nat} {s : HS} {M : Nat → Option Int} {x : Nat} {k : Int} (h : RepP n s M) (hx : x < 64) (hM : M x = none) :
    RepP (n + 1) (layS n x k s) (fun z => if z = x then some k else M z) := by
  refine ⟨fun j hj => ?_, fun z kz hz => ?_, fun z hz hn => ?_⟩
  · rw [layS_I, layS_K]
    by_cases hjn : j = n
    · exact ⟨x, hx, by rw [if_pos hjn], by rw [if_pos hjn, if_pos rfl], by rw [layS_Pl, if_pos (by omega), hjn]⟩
    · rw [if_neg hjn, if_neg hjn]
      obtain ⟨z, h1, h2, h3, h4⟩ := h.at_ j (by omega)
      have hzx : z ≠ x := by rintro rfl; rw [hM] at h3; cases h3
      exact ⟨z, h1, h2, by rw [if_neg hzx]; exact h3, by rw [layS_Pl, if_neg (by omega)]; exact h4⟩
  · by_cases hzx : z = x
    · subst hzx
      exact ⟨hx, n, by omega, by rw [layS_I, if_pos rfl]⟩
    · simp only [if_neg hzx] at hz
      obtain ⟨h1, j, hj, h2⟩ := h.of_ z kz hz
      exact ⟨h1, j, by omega, by rw [layS_I, if_neg (by omega)]; exact h2⟩
  · by_cases hzx : z = x
    · subst hzx; simp at hn
    · simp only [if_neg hzx] at hn
      rw [layS_Pl, if_neg (by omega)]
      exact h.no_ z hz hn
theorem up_put {n : Nat} {s : HS} (x k : Int) (h : HeapP n s) : UpI True (n + 1) n (layS n x k s) := by
  refine ⟨fun j h0 hj hjn hp => ?_, fun h0 j h1 hj hp => by omega, fun _ j h1 hj hp => by omega⟩
  have := h j h0 (by omega)
  unfold EdgeP at *
  rw [layS_I, layS_K, layS_I, layS_K, if_neg hjn, if_neg hjn, if_neg hp, if_neg hp]
  exact this

/-- The one at the end is cut off. -/
theorem rep_cut_last {n : Nat} {s : HS} {M : Nat → Option Int} (h : RepP (n + 1) s M) : RepP n ⟨s.I, s.K, updP s.Pl (s.I n).toNat 0⟩ (fun z => if z = (s.I n).toNat then none else M z) := by
  obtain ⟨x, hx1, hx2, hx3, hx4⟩ := h.at_ n (by omega)
  have hxn : (s.I n).toNat = x := by omega
  rw [hxn]
  refine ⟨fun j hj => ?_, fun z kz hz => ?_, fun z hz hn => ?_⟩
  · obtain ⟨z, h1, h2, h3, h4⟩ := h.at_ j (by omega)
    have hzx : z ≠ x := by rintro rfl; omega
    exact ⟨z, h1, h2, by rw [if_neg hzx]; exact h3, by show updP s.Pl x 0 z = _; unfold updP; rw [if_neg hzx]; exact h4⟩
  · by_cases hzx : z = x
    · simp [hzx] at hz
    · simp only [if_neg hzx] at hz
      obtain ⟨h1, j, hj, h2⟩ := h.of_ z kz hz
      have hjn : j ≠ n := by rintro rfl; omega
      exact ⟨h1, j, by omega, h2⟩
  · show updP s.Pl x 0 z = 0
    unfold updP
    by_cases hzx : z = x
    · rw [if_pos hzx]
    · rw [if_neg hzx]
      simp only [if_neg hzx] at hn
      exact h.no_ z hz hn
theorem heap_cut {n : Nat} {s s' : HS} (h : HeapP (n + 1) s) (hI : s'.I = s.I) (hK : s'.K = s.K) : HeapP n s' := fun j h0 hj => by
  have := h j h0 (by omega)
  unfold EdgeP at *
  rw [hI, hK]
  exact this
/-- One that is not at the end is taken out: the last one is laid in its place. -/
theorem rep_cut {n a : Nat} {s : HS} {M : Nat → Option Int} (h : RepP (n + 1) s M) (ha : a < n) :
    RepP n (layS a (s.I n) (s.K n) ⟨s.I, s.K, updP s.Pl (s.I a).toNat 0⟩) (fun z => if z = (s.I a).toNat then none else M z) := by
  obtain ⟨x, hx1, hx2, hx3, hx4⟩ := h.at_ n (by omega)
  obtain ⟨y, hy1, hy2, hy3, hy4⟩ := h.at_ a (by omega)
  have hxn : (s.I n).toNat = x := by omega
  have hyn : (s.I a).toNat = y := by omega
  have hxy : x ≠ y := by rintro rfl; omega
  rw [hyn]
  refine ⟨fun j hj => ?_, fun z kz hz => ?_, fun z hz hn => ?_⟩
  · rw [layS_I, layS_K]
    by_cases hja : j = a
    · exact ⟨x, hx1, by rw [if_pos hja]; exact hx2, by rw [if_pos hja, if_neg hxy]; exact hx3, by rw [layS_Pl, if_pos (by omega), hja]⟩
    · rw [if_neg hja, if_neg hja]
      obtain ⟨z, h1, h2, h3, h4⟩ := h.at_ j (by omega)
      have hzx : z ≠ x := by rintro rfl; omega
      have hzy : z ≠ y := by rintro rfl; omega
      exact ⟨z, h1, h2, by rw [if_neg hzy]; exact h3, by rw [layS_Pl, if_neg (by omega)]; show updP s.Pl y 0 z = _; unfold updP; rw [if_neg hzy]; exact h4⟩
  · by_cases hzy : z = y
    · simp [hzy] at hz
    · simp only [if_neg hzy] at hz
      obtain ⟨h1, j, hj, h2⟩ := h.of_ z kz hz
      refine ⟨h1, ?_⟩
      by_cases hjn : j = n
      · exact ⟨a, ha, by rw [layS_I, if_pos rfl, ← hjn]; exact h2⟩
      · have hja : j ≠ a := by rintro rfl; omega
        exact ⟨j, by omega, by rw [layS_I, if_neg hja]; exact h2⟩
  · by_cases hzy : z = y
    · subst hzy
      rw [layS_Pl, if_neg (by omega)]
      show updP s.Pl z 0 z = 0
      unfold updP
      rw [if_pos rfl]
    · simp only [if_neg hzy] at hn
      have hzx : z ≠ x := by rintro rfl; rw [hn] at hx3; cases hx3
      rw [layS_Pl, if_neg (by omega)]
      show updP s.Pl y 0 z = 0
      unfold updP
      rw [if_neg hzy]
      exact h.no_ z hz hn
theorem up_cut {n a : Nat} {s s' : HS} (x k : Int) (h : HeapP (n + 1) s) (hI : s'.I = s.I) (hK : s'.K = s.K) : UpI False n a (layS a x k s') := by
  refine ⟨fun j h0 hj hja hp => ?_, fun ha j h0 hj hp => ?_, fun hf => hf.elim⟩
  · have := h j h0 (by omega)
    unfold EdgeP at *
    rw [layS_I, layS_K, layS_I, layS_K, if_neg hja, if_neg hja, if_neg hp, if_neg hp, hI, hK]
    exact this
  · have h1 := h j h0 (by omega)
    have h2 := h a ha (by omega)
    unfold EdgeP AheadP at *
    rw [layS_I, layS_K, layS_I, layS_K, if_neg (by omega), if_neg (by omega), if_neg (by omega), if_neg (by omega), hI, hK]
    rw [hp] at h1
    omega
end Go.Proofs.Ytbfbahedbfjcoaa
