/- Who runs tick by tick: plain rounds, and how the purses lie. -/
import Derived.Test.YtogdpkeojccpcaaTurnWho
import Derived.Test.YtogdpkeojccpcaaTurnAsk2
namespace Go.Proofs.Ytogdpkeojccpcaa
set_option linter.all false
open Go.RowKit

def updO (f : Nat → Option PS) (i : Nat) (v : Option PS) : Nat → Option PS := fun j => if j = i then v else f j
theorem updO_at (f : Nat → Option PS) (i : Nat) (v : Option PS) : updO f i v i = v := by unfold updO; rw [if_pos rfl]
theorem updO_ne {f : Nat → Option PS} {i j : Nat} {v : Option PS} (h : j ≠ i) : updO f i v j = f j := by unfold updO; rw [if_neg h]
theorem updO_same {f : Nat → Option PS} {i : Nat} {v : Option PS} (h : f i = v) : updO f i v = f := by
  funext j; unfold updO
  by_cases hj : j = i
  · rw [if_pos hj, hj, h]
  · rw [if_neg hj]
theorem updO_updO (f : Nat → Option PS) (i : Nat) (v v' : Option PS) : updO (updO f i v) i v' = updO f i v' := by
  funext j; unfold updO
  by_cases hj : j = i
  · rw [if_pos hj, if_pos hj]
  · rw [if_neg hj, if_neg hj, if_neg hj]
/-- A purse at a tick: begun, and looked whether its period ends. -/
def atT (P B S : Nat → Int) (now : Int) (σ : Nat → Option PS) (i : Nat) : Option PS :=
  (if S i = now then some (newS (P i) (B i) now) else σ i).map (fun s => turnS s now)
/-- .. the first k of them. -/
def stT (P B S : Nat → Int) (now : Int) (σ : Nat → Option PS) (k : Nat) : Nat → Option PS := fun i => if i < k then atT P B S now σ i else σ i
def vOf (σ : Nat → Option PS) (i : Nat) : SlotV := match σ i with
  | none => ⟨false, 0, 0⟩
  | some s => ⟨s.gn, s.l, s.e⟩
def tickT (P B S : Nat → Int) (m : Nat) (now : Int) (σ : Nat → Option PS) : (Nat → Option PS) × Int :=
  match whoF (vOf (stT P B S now σ m)) m with
  | none => (stT P B S now σ m, -1)
  | some j => (updO (stT P B S now σ m) j ((stT P B S now σ m j).map chargeS), j)
def runT (P B S : Nat → Int) (m : Nat) : Nat → (Nat → Option PS) × List Int
  | 0 => (fun _ => none, [])
  | t + 1 => ((tickT P B S m t (runT P B S m t).1).1, (runT P B S m t).2 ++ [(tickT P B S m t (runT P B S m t).1).2])

theorem stT_zero (P B S : Nat → Int) (now : Int) (σ : Nat → Option PS) : stT P B S now σ 0 = σ := by
  funext i; unfold stT; rw [if_neg (by omega)]
theorem stT_at (P B S : Nat → Int) (now : Int) (σ : Nat → Option PS) (k : Nat) : stT P B S now σ k k = σ k := by unfold stT; rw [if_neg (by omega)]
theorem stT_succ (P B S : Nat → Int) (now : Int) (σ : Nat → Option PS) (k : Nat) : stT P B S now σ (k + 1) = updO (stT P B S now σ k) k (atT P B S now σ k) := by
  funext i
  unfold stT updO
  by_cases h : i = k
  · subst h; rw [if_pos (by omega), if_pos rfl]
  · rw [if_neg h]
    show (if i < k + 1 then atT P B S now σ i else σ i) = (if i < k then atT P B S now σ i else σ i)
    by_cases h2 : i < k
    · rw [if_pos h2, if_pos (by omega)]
    · rw [if_neg h2, if_neg (by omega)]
theorem atT_new {P B S : Nat → Int} {now : Int} {σ : Nat → Option PS} {i : Nat} (h : S i = now) : atT P B S now σ i = some (turnS (newS (P i) (B i) now) now) := by unfold atT; rw [if_pos h]; rfl
theorem atT_none {P B S : Nat → Int} {now : Int} {σ : Nat → Option PS} {i : Nat} (h : S i ≠ now) (hs : σ i = none) : atT P B S now σ i = none := by unfold atT; rw [if_neg h, hs]; rfl
theorem atT_some {P B S : Nat → Int} {now : Int} {σ : Nat → Option PS} {i : Nat} {s : PS} (h : S i ≠ now) (hs : σ i = some s) : atT P B S now σ i = some (turnS s now) := by unfold atT; rw [if_neg h, hs]; rfl
theorem newE_at {p b t : Int} (h : OkP p b) (h0 : 0 ≤ t) (h1 : t ≤ 1000) : newE p b t = 0 := by unfold newE; rw [if_pos ⟨h, h0⟩, if_pos (by omega)]
theorem runT_none {P B S : Nat → Int} {m k : Nat} {σ : Nat → Option PS} {l : List Int} (h1 : (runT P B S m k).1 = σ) (h2 : (runT P B S m k).2 = l) (hw : whoF (vOf (stT P B S k σ m)) m = none) : (runT P B S m (k + 1)).1 = stT P B S k σ m ∧ (runT P B S m (k + 1)).2 = l ++ [-1] := by
  rw [runT, h1, h2]
  unfold tickT
  rw [hw]
  exact ⟨rfl, rfl⟩
theorem runT_some {P B S : Nat → Int} {m k i : Nat} {σ : Nat → Option PS} {l : List Int} {s : PS} (h1 : (runT P B S m k).1 = σ) (h2 : (runT P B S m k).2 = l) (hw : whoF (vOf (stT P B S k σ m)) m = some i) (hs : stT P B S k σ m i = some s) : (runT P B S m (k + 1)).1 = updO (stT P B S k σ m) i (some (chargeS s)) ∧ (runT P B S m (k + 1)).2 = l ++ [(i : Int)] := by
  rw [runT, h1, h2]
  unfold tickT
  rw [hw]
  simp [hs]
theorem cand_some {σ : Nat → Option PS} {i : Nat} (h : candW (vOf σ i)) : ∃ s, σ i = some s := by
  unfold vOf at h
  cases hs : σ i with
  | none => rw [hs] at h; unfold candW at h; simp at h
  | some s => exact ⟨s, rfl⟩
theorem runT_len (P B S : Nat → Int) (m t : Nat) : (runT P B S m t).2.length = t := by
  induction t with
  | zero => rfl
  | succ t ih => rw [runT, List.length_append, ih]; rfl

/-- A purse of a plan by that tick. -/
structure GoodS (t : Int) (s : PS) : Prop where
  ok : OkP s.p s.b
  l : 0 ≤ s.l ∧ s.l ≤ 64
  e : 0 ≤ s.e ∧ s.e ≤ t + 64
  sh : 0 ≤ s.sh ∧ s.sh ≤ 64 * t
  n : s.n = none
  lv : s.lv = false
  gn : s.gn = false
theorem GoodS.pok {t : Int} {s : PS} (h : GoodS t s) (ht : t ≤ 2000) : POk 4611686018427387904 4611686018427387904 s :=
  ⟨h.ok, h.l, by have := h.e; omega, by have := h.sh; omega, fun q hq => by rw [h.n] at hq; cases hq⟩
theorem GoodS.new {p b t : Int} (h : OkP p b) (ht : 0 ≤ t) : GoodS t (newS p b t) := by
  obtain ⟨h1, h2, h3, h4⟩ := h
  exact ⟨⟨h1, h2, h3, h4⟩, ⟨by show 0 ≤ b; omega, by show b ≤ 64; omega⟩, ⟨by show 0 ≤ t + p; omega, by show t + p ≤ t + 64; omega⟩, ⟨by show (0 : Int) ≤ 0; omega, by show (0 : Int) ≤ 64 * t; omega⟩, rfl, rfl, rfl⟩
theorem GoodS.turn {t now : Int} {s : PS} (h : GoodS t s) (h1 : now ≤ t) (h2 : 0 ≤ now) : GoodS (t + 1) (turnS s now) := by
  obtain ⟨⟨o1, o2, o3, o4⟩, hl, he, hs, hn, hlv, hg⟩ := h
  unfold turnS
  rw [hlv, hn]
  split
  · refine ⟨⟨o1, o2, o3, o4⟩, ⟨?_, ?_⟩, ⟨?_, ?_⟩, ⟨?_, ?_⟩, ?_, ?_, ?_⟩ <;> simp only [Bool.false_eq_true, if_false] <;> first | omega | assumption | trivial | skip
    all_goals first | exact hn | exact hlv | exact hg
  · exact ⟨⟨o1, o2, o3, o4⟩, hl, ⟨he.1, by omega⟩, ⟨hs.1, by omega⟩, hn, hlv, hg⟩
theorem GoodS.charge {t : Int} {s : PS} (h : GoodS t s) : GoodS t (chargeS s) := by
  obtain ⟨ho, hl, he, hs, hn, hlv, hg⟩ := h
  unfold chargeS
  split
  · exact ⟨ho, hl, he, hs, hn, hlv, hg⟩
  · rename_i h0
    rw [hg] at h0
    simp at h0
    exact ⟨ho, ⟨by show 0 ≤ s.l - 1; omega, by show s.l - 1 ≤ 64; omega⟩, he, hs, hn, hlv, hg⟩
theorem GoodS.mono {t t' : Int} {s : PS} (h : GoodS t s) (ht : t ≤ t') : GoodS t' s :=
  ⟨h.ok, h.l, ⟨h.e.1, by have := h.e; omega⟩, ⟨h.sh.1, by have := h.sh; omega⟩, h.n, h.lv, h.gn⟩

/-- How a purse lies: the program's and the document's. -/
structure Lies (Q : World → Nat → PS → Prop) (tq : TypeId) : Prop where
  blk : ∀ {w g s}, Q w g s → ∃ cs, Blk w g tq cs
  upd : ∀ {w w' : World} {g : Nat} {s : PS} {R : Nat → Prop}, Q w g s → s.n = none → Upd R w w' → ¬ R g → Q w' g s
theorem prp_lies : Lies PrP 66 := by
  refine ⟨fun {w g s} h => ⟨_, h.choose_spec.1⟩, fun {w w' g s R} h hn hu hg => ?_⟩
  obtain ⟨np, h1, h2⟩ := h
  rw [hn] at h2
  cases np with
  | none => exact ⟨none, h1.upd hu hg, by rw [hn]; trivial⟩
  | some a => exact h2.elim
theorem rfp_lies : Lies RfP 58 := by
  refine ⟨fun {w g s} h => ?_, fun {w w' g s R} h hn hu hg => h.upd hu hg⟩
  obtain ⟨np, nb, h1, _⟩ := h
  exact ⟨_, h1⟩

def ptrV (σ : Nat → Option PS) (gs : Nat → Nat) (i : Nat) : Value := if (σ i).isSome then .pointer (some ⟨gs i, 0, none⟩) else .pointer none
def ptrA (σ : Nat → Option PS) (gs : Nat → Nat) (m : Nat) : Array Value := ((List.range m).map (ptrV σ gs)).toArray
theorem ptrA_at (σ : Nat → Option PS) (gs : Nat → Nat) (m i : Nat) (h : i < m) : (ptrA σ gs m)[i]? = some (ptrV σ gs i) := by
  unfold ptrA; simp [h]
def updN (f : Nat → Nat) (i v : Nat) : Nat → Nat := fun j => if j = i then v else f j
theorem ptrA_set (σ : Nat → Option PS) (gs : Nat → Nat) (m i g : Nat) (s : PS) : (ptrA σ gs m).setIfInBounds i (.pointer (some ⟨g, 0, none⟩)) = ptrA (updO σ i (some s)) (updN gs i g) m := by
  apply Array.ext_getElem?
  intro j
  rw [Array.getElem?_setIfInBounds]
  by_cases hj : j < m
  · rw [ptrA_at _ _ _ _ hj, ptrA_at _ _ _ _ hj]
    by_cases hij : i = j
    · subst hij
      have : i < (ptrA σ gs m).size := by unfold ptrA; simp [hj]
      rw [if_pos rfl, if_pos this]
      unfold ptrV updN
      rw [updO_at, if_pos rfl]
      rfl
    · rw [if_neg hij]
      unfold ptrV updN
      have hji : ¬ j = i := fun e => hij e.symm
      rw [updO_ne hji]
      simp only [if_neg hji]
  · have h1 : (ptrA σ gs m).size = m := by unfold ptrA; simp
    have h2 : (ptrA (updO σ i (some s)) (updN gs i g) m).size = m := by unfold ptrA; simp
    rw [Array.getElem?_eq_none (by omega), Array.getElem?_eq_none (by omega)]
    split
    · rw [if_neg (by omega)]
    · rfl
theorem ptrA_same {σ σ' : Nat → Option PS} (gs : Nat → Nat) (m : Nat) (h : ∀ i, i < m → (σ i).isSome = (σ' i).isSome) : ptrA σ gs m = ptrA σ' gs m := by
  apply Array.ext_getElem?
  intro j
  by_cases hj : j < m
  · rw [ptrA_at _ _ _ _ hj, ptrA_at _ _ _ _ hj]
    unfold ptrV
    rw [h j hj]
  · have h1 : (ptrA σ gs m).size = m := by unfold ptrA; simp
    have h2 : (ptrA σ' gs m).size = m := by unfold ptrA; simp
    rw [Array.getElem?_eq_none (by omega), Array.getElem?_eq_none (by omega)]

/-- The purses of a plan and their row; nothing old has changed. -/
structure PlW (Q : World → Nat → PS → Prop) (tp : TypeId) (w wr : World) (gp m : Nat) (t : Int) (σ : Nat → Option PS) (gs : Nat → Nat) : Prop where
  row : Blk wr gp tp (ptrA σ gs m)
  q : ∀ i, i < m → ∀ s, σ i = some s → Q wr (gs i) s ∧ GoodS t s ∧ w.heap.size ≤ gs i
  d : ∀ i j, i < m → j < m → i ≠ j → (σ i).isSome → (σ j).isSome → gs i ≠ gs j
  b : Below w.heap.size w wr
  hp : w.heap.size ≤ gp
section
variable {Q : World → Nat → PS → Prop} {tp tq : TypeId} {w wr : World} {gp m : Nat} {t : Int} {σ : Nat → Option PS} {gs : Nat → Nat}
theorem PlW.cell (h : PlW Q tp w wr gp m t σ gs) {i : Nat} (hi : i < m) : wr.cell? ⟨gp, i, none⟩ = some (ptrV σ gs i) := by rw [h.row.cell]; exact ptrA_at _ _ _ _ hi
theorem PlW.below (hl : Lies Q tq) (h : PlW Q tp w wr gp m t σ gs) {w' : World} (hb : Below wr.heap.size wr w') : PlW Q tp w w' gp m t σ gs :=
  ⟨h.row.below hb h.row.lt, fun i hi s hs => by
    obtain ⟨h1, h2, h3⟩ := h.q i hi s hs
    obtain ⟨cs, hc⟩ := hl.blk h1
    exact ⟨hl.upd h1 h2.n (Upd.of_below hb) (by have := hc.lt; omega), h2, h3⟩, h.d, h.b.trans (hb.mono h.b.size), h.hp⟩
/-- Something else has changed. -/
theorem PlW.far (hl : Lies Q tq) (h : PlW Q tp w wr gp m t σ gs) {w' : World} {R : Nat → Prop} (hu : Upd R wr w') (hR : ∀ k, R k → w.heap.size ≤ k) (hp : ¬ R gp) (hg : ∀ i, i < m → (σ i).isSome → ¬ R (gs i)) : PlW Q tp w w' gp m t σ gs :=
  ⟨h.row.upd hu hp, fun i hi s hs => by
    obtain ⟨h1, h2, h3⟩ := h.q i hi s hs
    exact ⟨hl.upd h1 h2.n hu (hg i hi (by rw [hs]; rfl)), h2, h3⟩, h.d, h.b.trans (hu.below h.b.size hR), h.hp⟩
theorem PlW.mono (h : PlW Q tp w wr gp m t σ gs) {t' : Int} (ht : t ≤ t') : PlW Q tp w wr gp m t' σ gs :=
  ⟨h.row, fun i hi s hs => ⟨(h.q i hi s hs).1, (h.q i hi s hs).2.1.mono ht, (h.q i hi s hs).2.2⟩, h.d, h.b, h.hp⟩
/-- A new purse is laid into its place. -/
theorem PlW.put (hl : Lies Q tq) (h : PlW Q tp w wr gp m t σ gs) (hne : tq ≠ tp) {i g : Nat} {s : PS} (hq : Q wr g s) (hs : GoodS t s) (hg : w.heap.size ≤ g) (hgs : ∀ j, j < m → (σ j).isSome → gs j ≠ g) :
    PlW Q tp w (wr.setCell ⟨gp, i, none⟩ (.pointer (some ⟨g, 0, none⟩))) gp m t (updO σ i (some s)) (updN gs i g) := by
  have hu : Upd (· = gp) wr (wr.setCell ⟨gp, i, none⟩ (.pointer (some ⟨g, 0, none⟩))) := Upd.set1 _ _ _
  have hnep : ∀ {g' s'}, Q wr g' s' → g' ≠ gp := fun {g' s'} hq' => by
    obtain ⟨cs, hc⟩ := hl.blk hq'
    exact hc.ne_ h.row hne
  refine ⟨by rw [← ptrA_set]; exact h.row.set_ i _, fun j hj s' hs' => ?_, fun j k hj hk hjk hsj hsk => ?_, h.b.setCell h.hp _, h.hp⟩
  · by_cases hji : j = i
    · subst hji
      rw [updO_at] at hs'
      cases hs'
      unfold updN
      rw [if_pos rfl]
      exact ⟨hl.upd hq hs.n hu (hnep hq), hs, hg⟩
    · rw [updO_ne hji] at hs'
      unfold updN
      rw [if_neg hji]
      obtain ⟨h1, h2, h3⟩ := h.q j hj s' hs'
      exact ⟨hl.upd h1 h2.n hu (hnep h1), h2, h3⟩
  · unfold updN
    by_cases hji : j = i
    · rw [if_pos hji, if_neg (by omega)]
      rw [updO_ne (by omega)] at hsk
      exact (hgs k hk hsk).symm
    · rw [if_neg hji]
      rw [updO_ne hji] at hsj
      by_cases hki : k = i
      · rw [if_pos hki]; exact hgs j hj hsj
      · rw [if_neg hki]
        rw [updO_ne hki] at hsk
        exact h.d j k hj hk hjk hsj hsk
/-- A purse has changed. -/
theorem PlW.turn (hl : Lies Q tq) (h : PlW Q tp w wr gp m t σ gs) (hne : tq ≠ tp) {i : Nat} {s s' : PS} (hi : i < m) (hs : σ i = some s) {w' : World} (hu : Upd (· = gs i) wr w') (hq : Q w' (gs i) s') (hs' : GoodS t s') :
    PlW Q tp w w' gp m t (updO σ i (some s')) gs := by
  obtain ⟨h1, _, h3⟩ := h.q i hi s hs
  obtain ⟨cs, hc⟩ := hl.blk h1
  have hnp := hc.ne_ h.row hne
  refine ⟨?_, fun j hj s'' hs'' => ?_, fun j k hj hk hjk hsj hsk => ?_, h.b.trans (hu.below h.b.size fun k hk => by rw [hk]; exact h3), h.hp⟩
  · rw [← ptrA_same (σ := σ)]
    · exact h.row.upd hu (fun e => hnp e.symm)
    · intro j hj
      by_cases hji : j = i
      · subst hji; rw [updO_at, hs]; rfl
      · rw [updO_ne hji]
  · by_cases hji : j = i
    · subst hji
      rw [updO_at] at hs''
      cases hs''
      exact ⟨hq, hs', h3⟩
    · rw [updO_ne hji] at hs''
      obtain ⟨k1, k2, k3⟩ := h.q j hj s'' hs''
      exact ⟨hl.upd k1 k2.n hu (h.d j i hj hi hji (by rw [hs'']; rfl) (by rw [hs]; rfl)), k2, k3⟩
  · refine h.d j k hj hk hjk ?_ ?_
    · by_cases hji : j = i
      · subst hji; rw [hs]; rfl
      · rwa [updO_ne hji] at hsj
    · by_cases hki : k = i
      · subst hki; rw [hs]; rfl
      · rwa [updO_ne hki] at hsk
end
theorem PlW.rowV {tp : TypeId} {w wr : World} {gp m : Nat} {t : Int} {σ : Nat → Option PS} {gs : Nat → Nat} (h : PlW PrP tp w wr gp m t σ gs) : RowV wr (some ⟨gp, 0, none⟩) m (ptrV σ gs) (vOf σ) :=
  ⟨fun i hi => ⟨gp, rfl, h.row.lt, h.cell hi⟩, fun i hi _ => by
    unfold ptrV vOf
    cases hs : σ i with
    | none => exact Or.inl ⟨Or.inl rfl, rfl⟩
    | some s => exact Or.inr ⟨gs i, s, rfl, (h.q i hi s hs).1, (h.q i hi s hs).2.1.ok.1, rfl⟩⟩
theorem PlW.rowR {tp : TypeId} {w wr : World} {gp m : Nat} {t : Int} {σ : Nat → Option PS} {gs : Nat → Nat} (h : PlW RfP tp w wr gp m t σ gs) : RowR wr (some ⟨gp, 0, none⟩) m (ptrV σ gs) (vOf σ) :=
  ⟨fun i hi => ⟨gp, rfl, h.row.lt, h.cell hi⟩, fun i hi _ => by
    unfold ptrV vOf
    cases hs : σ i with
    | none => exact Or.inl ⟨rfl, rfl⟩
    | some s => exact Or.inr ⟨gs i, s, rfl, (h.q i hi s hs).1, rfl⟩⟩
end Go.Proofs.Ytogdpkeojccpcaa
