/- Ways that stand alone, beside the program's ports. No condition. -/
import Derived.Test.YtlaakcgipecldaaRaMade
namespace Go.Proofs.Ytlaakcgipecldaa
set_option linter.all false
open Go.RowKit

/-- The ways alone, and the ports that they were made of. -/
structure AlP (w : World) (S : Nat → Prop) (F : Nat → Nat → Prop) (M : List RE) (Am A : Option Addr) (gs : Nat → Nat) : Prop where
  pt : ∀ i (h : i < M.length), ∃ b o, Am = some ⟨b, o, none⟩ ∧ S b ∧ w.cell? ⟨b, o + i * 6 + 1, none⟩ = some (.int .i64 M[i].f) ∧ w.cell? ⟨b, o + i * 6 + 2, none⟩ = some (.int .i64 M[i].t)
  row : PRow w S A M.length gs
  way : ∀ i (h : i < M.length), WayP w (F i) (gs i) M[i].s
  ft : Foot w S F M.length

section
variable {w w' : World} {S : Nat → Prop} {F : Nat → Nat → Prop} {M : List RE} {Am A : Option Addr} {gs : Nat → Nat} {i : Nat}
theorem AlP.far {X : Nat → Prop} (h : AlP w S F M Am A gs) (hu : Upd X w w') (hS : ∀ k, S k → ¬ X k) (hF : ∀ i, i < M.length → ∀ k, F i k → ¬ X k) : AlP w' S F M Am A gs := by
  refine ⟨fun i hi => ?_, h.row.upd hu hS h.ft.sl, fun j hj => (h.way j hj).upd hu (hF j hj), h.ft.keep hu.size⟩
  obtain ⟨b, o, h1, h2, h3, h4⟩ := h.pt i hi
  exact ⟨b, o, h1, h2, (hu.cell (p := ⟨b, _, none⟩) (h.ft.sl b h2) (hS b h2)).trans h3, (hu.cell (p := ⟨b, _, none⟩) (h.ft.sl b h2) (hS b h2)).trans h4⟩
theorem AlP.on (h : AlP w S F M Am A gs) (hi : i < M.length) {F' : Nat → Prop} {s' : WS} (hp : WayP w' F' (gs i) s') (hF : ∀ k, F' k → growF (F i) w w' k) (hu : Upd (F i) w w') : AlP w' S (onF F i F') (onE M i s') Am A gs := by
  have hS : ∀ k, S k → ¬ F i k := fun k h1 h2 => h.ft.sp i hi k h2 h1
  refine ⟨fun j hj => ?_, by rw [onE_length]; exact h.row.upd hu hS h.ft.sl, fun j hj => ?_, by rw [onE_length]; exact h.ft.on hi hF hu.size⟩
  · have hj' : j < M.length := by rw [onE_length] at hj; exact hj
    obtain ⟨b, o, h1, h2, h3, h4⟩ := h.pt j hj'
    refine ⟨b, o, h1, h2, ((hu.cell (p := ⟨b, _, none⟩) (h.ft.sl b h2) (hS b h2)).trans h3).trans ?_, ((hu.cell (p := ⟨b, _, none⟩) (h.ft.sl b h2) (hS b h2)).trans h4).trans ?_⟩
    · by_cases e : j = i
      · subst e; rw [onE_same]
      · rw [onE_other _ _ _ _ _ e]
    · by_cases e : j = i
      · subst e; rw [onE_same]
      · rw [onE_other _ _ _ _ _ e]
  · have hj' : j < M.length := by rw [onE_length] at hj; exact hj
    by_cases e : j = i
    · subst e
      rw [onE_same, onF_same]
      exact hp
    · rw [onE_other _ _ _ _ _ e, onF_other _ _ _ _ e]
      exact (h.way j hj').upd hu fun k hk hk2 => h.ft.dj j i hj' hi e k hk hk2
end

def OA (Am A : Option Addr) (gs : Nat → Nat) (M : List RE) : World → (Nat → Prop) → Prop := fun x Y => ∃ S F, AlP x S F M Am A gs ∧ ∀ k, PX S F M.length k → Y k
theorem OA.of (Am A : Option Addr) (gs : Nat → Nat) (M : List RE) : OF (OA Am A gs M) := fun x x' Y X h hu hl hX => by
  obtain ⟨S, F, h3, h4⟩ := h
  exact ⟨S, F, h3.far hu (fun k hk => hX k (h4 k (Or.inl hk))) (fun i hi k hk => hX k (h4 k (Or.inr ⟨i, hi, hk⟩))), h4⟩

section
variable {w x x' : World} {rp : Nat} {L M : List RE} {Am A : Option Addr} {gs : Nat → Nat}
theorem movA {S : Nat → Prop} {F : Nat → Nat → Prop} {Ap : Option Addr} {hs gp : Nat → Nat} {Y S' : Nat → Prop} {F' F2 : Nat → Nat → Prop} {M' : List RE} (h : JX w x rp L (OA Am A gs M))
    (h1 : RtP x S F rp L Ap hs gp) (h2' : ∀ k, PX S' F' M.length k → Y k) (h3 : ∀ k, PX S F L.length k → w.heap.size ≤ k ∧ ¬ Y k) (h4 : ∀ k, Y k → w.heap.size ≤ k ∧ k < x.heap.size)
    (hl : M'.length = M.length) (hp : AlP x' S' F2 M' Am A gs) (hm : Mv x x' F' F2 M.length) : JX w x' rp L (OA Am A gs M') := by
  have hu : Upd (PX S' F' M.length) x x' := hm.upd.mono fun k hk => Or.inr hk
  have hne : ∀ k, PX S F L.length k → ¬ PX S' F' M.length k := fun k hk hk2 => (h3 k hk).2 (h2' k hk2)
  have hbs := h.b.size
  refine ⟨⟨S, F, Ap, hs, gp, fun k => Y k ∨ (x.heap.size ≤ k ∧ k < x'.heap.size), h1.far hu (fun k hk => hne k (Or.inl hk)) (fun i hi k hk => hne k (Or.inr ⟨i, hi, hk⟩)), ⟨S', F2, hp, fun k hk => ?_⟩, fun k hk => ⟨(h3 k hk).1, ?_⟩, fun k hk => ?_⟩, below_upd h.b hu (fun k hk => (h4 k (h2' k hk)).1), OA.of _ _ _ _⟩
  · rcases hk with hk | ⟨j, hj, hk⟩
    · exact Or.inl (h2' k (Or.inl hk))
    · rw [hl] at hj
      rcases hm.sub j hj k hk with h5 | h5
      · exact Or.inl (h2' k (Or.inr ⟨j, hj, h5⟩))
      · exact Or.inr h5
  · rintro (hy | hy)
    · exact (h3 k hk).2 hy
    · have := PX.lt h1 hk; omega
  · have := hu.size
    rcases hk with hk | hk
    · have := h4 k hk; omega
    · omega

theorem ja_row (h : JX w x rp L (OA Am A gs M)) (k : Nat) (hk : k < M.length) : ∃ b o, A = some ⟨b, o, none⟩ ∧ x.cell? ⟨b, o + k, none⟩ = some (.pointer (some ⟨gs k, 0, none⟩)) := by
  obtain ⟨_, _, _, _, _, _, _, ⟨S', F', h2, _⟩, _⟩ := h.ex
  obtain ⟨b, o, h5, _, h6⟩ := h2.row k hk
  exact ⟨b, o, h5, h6⟩
theorem ja_pt (h : JX w x rp L (OA Am A gs M)) (k : Nat) (hk : k < M.length) : ∃ b o, Am = some ⟨b, o, none⟩ ∧ x.cell? ⟨b, o + k * 6 + 1, none⟩ = some (.int .i64 M[k].f) ∧ x.cell? ⟨b, o + k * 6 + 2, none⟩ = some (.int .i64 M[k].t) := by
  obtain ⟨_, _, _, _, _, _, _, ⟨S', F', h2, _⟩, _⟩ := h.ex
  obtain ⟨b, o, h5, _, h6, h7⟩ := h2.pt k hk
  exact ⟨b, o, h5, h6, h7⟩
theorem ja_send (h : JX w x rp L (OA Am A gs M)) (ho : Sound M) (k : Nat) (hk : k < M.length) (t : Int) (m : ByteArray) (hm : m.size ≤ maxLen) :
    Calls Try.prog 13 #[.pointer (some ⟨gs k, 0, none⟩), .string m, .int .i64 t] x fun e x' => e = .returned (.int .i64 (sendE M[k].s m.size t)) ∧ JX w x' rp L (OA Am A gs (onE M k (sendS M[k].s m t))) := by
  obtain ⟨S, F, Ap, hs, gp, Y, h1, ⟨S', F', h2, h2'⟩, h3, h4⟩ := h.ex
  refine (wsend_any (h2.way k hk) (ho k hk).1 m t hm).mono ?_
  rintro e x' ⟨rfl, hp, hu⟩
  exact ⟨rfl, movA h h1 h2' h3 h4 (onE_length _ _ _) (h2.on hk hp (fun _ h => h) hu) (Mv.one hk (fun _ h => h) hu)⟩
theorem ja_recv (h : JX w x rp L (OA Am A gs M)) (ho : Sound M) (k : Nat) (hk : k < M.length) (t : Int) :
    Calls Try.prog 12 #[.pointer (some ⟨gs k, 0, none⟩), .int .i64 t] x fun e x' => e = .returned (.tuple #[.string (recvM M[k].s t), .bool (recvB M[k].s t), .int .i64 (recvE M[k].s t)]) ∧ JX w x' rp L (OA Am A gs (onE M k (recvS M[k].s t))) := by
  obtain ⟨S, F, Ap, hs, gp, Y, h1, ⟨S', F', h2, h2'⟩, h3, h4⟩ := h.ex
  refine (wrecv_any (h2.way k hk) (ho k hk).1 t).mono ?_
  rintro e x' ⟨rfl, hp, hu⟩
  exact ⟨rfl, movA h h1 h2' h3 h4 (onE_length _ _ _) (h2.on hk hp (fun _ h => Or.inl h) hu) (Mv.one hk (fun _ h => Or.inl h) hu)⟩
theorem ja_clear (h : JX w x rp L (OA Am A gs M)) (k : Nat) (hk : k < M.length) :
    Calls Try.prog 20 #[.pointer (some ⟨gs k, 0, none⟩)] x fun e x' => e = .returned (.tuple #[]) ∧ JX w x' rp L (OA Am A gs (onE M k (clearS M[k].s))) := by
  obtain ⟨S, F, Ap, hs, gp, Y, h1, ⟨S', F', h2, h2'⟩, h3, h4⟩ := h.ex
  refine (wclear_any (h2.way k hk)).mono ?_
  rintro e x' ⟨rfl, hp, hu⟩
  exact ⟨rfl, movA h h1 h2' h3 h4 (onE_length _ _ _) (h2.on hk hp (fun _ h => Or.inl h) hu) (Mv.one hk (fun _ h => Or.inl h) hu)⟩
theorem ja_len (h : JX w x rp L (OA Am A gs M)) (ho : Sound M) (k : Nat) (hk : k < M.length) :
    Calls Try.prog 14 #[.pointer (some ⟨gs k, 0, none⟩)] x fun e x' => e = .returned (.int .i64 M[k].s.L.length) ∧ x = x' := by
  obtain ⟨_, _, _, _, _, _, _, ⟨S', F', h2, _⟩, _⟩ := h.ex
  exact wlen_any (h2.way k hk) (ho k hk).1
end

theorem prd_own {w : World} {B c : Nat} {A : Option Addr} {Ps : List PV} (h : w.ownsRow B 30 6 (.slice A Ps.length c) Ps.length (pcells Ps)) : PRd w A Ps := by
  by_cases h0 : Ps.length = 0
  · exact fun i hi => absurd hi (by omega)
  · obtain ⟨g, rfl⟩ := row_addr h (by omega)
    obtain ⟨_, cur, hI⟩ := ir_of_own rfl h
    exact hI.prd

/-! ### Building them -/
structure LW (n₀ : Nat) (w : World) (v : Value) (gs : Nat → Nat) (F : Nat → Nat → Prop) (Ps : List PV) (i : Nat) : Prop where
  own : w.ownsRow n₀ 25 1 v i (ptrs gs i)
  way : ∀ j (h : j < Ps.length), j < i → WayP w (F j) (gs j) (freshE Ps[j]).s
  fl : ∀ j, j < i → ∀ k, F j k → n₀ ≤ k ∧ k < w.heap.size
  dj : ∀ a b, a < i → b < i → a ≠ b → ∀ k, F a k → ¬ F b k
  sp : ∀ j, j < i → ∀ k, F j k → v.ownBlock ≠ some k
  bw : n₀ ≤ w.heap.size
  ip : i ≤ Ps.length

section
variable {n₀ : Nat} {w w' : World} {v : Value} {gs : Nat → Nat} {F : Nat → Nat → Prop} {Ps : List PV} {i : Nat}
theorem LW.push (h : LW n₀ w v gs F Ps i) (hi : i < Ps.length) {w4 w5 : World} (hb : Below w.heap.size w w4) {gN : Nat} {FN : Nat → Prop}
    (hw : WayP w4 FN gN (freshE Ps[i]).s) (hF : ∀ k, FN k → w.heap.size ≤ k ∧ k < w4.heap.size) {g cap : Nat}
    (hown : w5.ownsRow n₀ 25 1 (.slice (some ⟨g, 0, none⟩) (i + 1) cap) (i + 1) (ptrs gs i ++ [.pointer (some ⟨gN, 0, none⟩)])) (hgrow : w4.grownBy w5 v.ownBlock) (hat : v.ownBlock = some g ∨ g = w4.heap.size) :
    LW n₀ w5 (.slice (some ⟨g, 0, none⟩) (i + 1) cap) (upN gs i gN) (onF F i FN) Ps (i + 1) := by
  have hu : Upd (fun k => some k = v.ownBlock) w4 w5 := ⟨hgrow.os, hgrow.tape, hgrow.output, hgrow.size, fun k hk hn => hgrow.block k hk fun e => hn e⟩
  have hvb : ∀ j, v.ownBlock = some j → j < w.heap.size := fun j hj => own_lt2 h.own hj
  have hsz := hb.size
  have hsz5 := hu.size
  have hgF : ∀ k, (k < w.heap.size → v.ownBlock ≠ some k) → k < w4.heap.size → some g ≠ some k := fun k h1 h2 e => by
    have e : g = k := by simpa using e
    subst e
    rcases hat with e2 | e2
    · exact h1 (hvb _ e2) e2
    · omega
  refine ⟨by rw [ptrs_succ]; exact hown, fun j hj hji => ?_, fun j hj k hk => ?_, fun a b ha hb2 hne k h1 h2 => ?_, fun j hj k hk => ?_, by have := h.bw; omega, hi⟩
  · by_cases e : j = i
    · subst e
      rw [upN_same, onF_same]
      refine hw.upd hu fun k hk hx => ?_
      have hk3 := hF k hk
      have := hvb _ hx.symm
      omega
    · rw [upN_other _ _ _ _ e, onF_other _ _ _ _ e]
      have hj2 : j < i := by omega
      refine ((h.way j hj hj2).upd (Upd.of_below hb) (fun k hk => by have := (h.fl j hj2 k hk).2; omega)).upd hu fun k hk hx => h.sp j hj2 k hk hx.symm
  · by_cases e : j = i
    · subst e
      rw [onF_same] at hk
      have hk3 := hF k hk
      have := h.bw
      omega
    · rw [onF_other _ _ _ _ e] at hk
      have hk3 := h.fl j (by omega) k hk
      omega
  · by_cases e1 : a = i
    · subst e1
      rw [onF_same] at h1
      rw [onF_other _ _ _ _ (Ne.symm hne)] at h2
      have := hF k h1
      have := h.fl b (by omega) k h2
      omega
    · rw [onF_other _ _ _ _ e1] at h1
      by_cases e2 : b = i
      · subst e2
        rw [onF_same] at h2
        have := hF k h2
        have := h.fl a (by omega) k h1
        omega
      · rw [onF_other _ _ _ _ e2] at h2
        exact h.dj a b (by omega) (by omega) hne k h1 h2
  · by_cases e : j = i
    · subst e
      rw [onF_same] at hk
      have hk3 := hF k hk
      exact hgF k (fun hx => by omega) hk3.2
    · rw [onF_other _ _ _ _ e] at hk
      have hk3 := h.fl j (by omega) k hk
      exact hgF k (fun _ => h.sp j (by omega) k hk) (by omega)

/-- All are there: the program's ports (made in w1, w2), the ports' own row (from w on), and the ways alone. -/
theorem LW.done {w0 w1 w2 x : World} {rp n : Nat} {Am A : Option Addr} {c cm : Nat} (h : LW w2.heap.size x (.slice A n c) gs F Ps n) (hn : n = Ps.length) (h0 : Below w0.heap.size w0 w1)
    (hpr : w1.ownsRow w0.heap.size 30 6 (.slice Am n cm) n (pcells Ps)) (hF : FrP w1.heap.size w2 rp (Ps.map freshE)) (hb2 : Below w1.heap.size w1 w2) (hbx : Below w2.heap.size w2 x) : JX w0 x rp (Ps.map freshE) (OA Am A gs (Ps.map freshE)) := by
  obtain ⟨S, F1, Ap, hs, gp, p1, p2, p3⟩ := hF
  have z0 := h0.size
  have z1 := hb2.size
  have z2 := hbx.size
  have hlen : (Ps.map freshE).length = n := by rw [List.length_map, hn]
  have q1 := p1.far (Upd.of_below hbx) (fun k hk => by have := p1.ft.sl k hk; omega) (fun i hi k hk => by have := p1.ft.fl i hi k hk; omega)
  have hPX : ∀ k, PX S F1 (Ps.map freshE).length k → w1.heap.size ≤ k ∧ k < w2.heap.size := fun k hk => by
    refine ⟨?_, PX.lt p1 hk⟩
    rcases hk with hk | ⟨j, hj, hk⟩
    · exact p2 k hk
    · exact p3 j hj k hk
  have hv : ∀ k, (Value.slice A n c).ownBlock = some k → w2.heap.size ≤ k ∧ k < x.heap.size := fun k hk => ⟨(own_cells h.own hk).1, own_lt2 h.own hk⟩
  have hm : ∀ k, (Value.slice Am n cm).ownBlock = some k → w0.heap.size ≤ k ∧ k < w1.heap.size := fun k hk => ⟨(own_cells hpr hk).1, own_lt2 hpr hk⟩
  have hb12 : Below w1.heap.size w1 x := hb2.trans (hbx.mono z1)
  have hall : ∀ k, PX (fun k => (Value.slice A n c).ownBlock = some k ∨ (Value.slice Am n cm).ownBlock = some k) F (Ps.map freshE).length k → (w2.heap.size ≤ k ∧ k < x.heap.size) ∨ (w0.heap.size ≤ k ∧ k < w1.heap.size) := fun k hk => by
    rcases hk with (hk | hk) | ⟨j, hj, hk⟩
    · exact Or.inl (hv k hk)
    · exact Or.inr (hm k hk)
    · exact Or.inl (h.fl j (by omega) k hk)
  refine ⟨⟨S, F1, Ap, hs, gp, PX (fun k => (Value.slice A n c).ownBlock = some k ∨ (Value.slice Am n cm).ownBlock = some k) F (Ps.map freshE).length, q1, ⟨_, F, ⟨fun i hi => ?_, fun i hi => ?_, fun i hi => ?_, ⟨fun a b ha hb hne k h1 h2 => ?_, fun a ha k h1 h2 => ?_, fun k hk => ?_, fun a ha k h1 => ?_⟩⟩, fun _ h => h⟩, fun k hk => ?_, fun k hk => ?_⟩, (h0.trans (hb2.mono z0)).trans (hbx.mono (by omega)), OA.of _ _ _ _⟩
  · have hi2 : i < Ps.length := by rw [List.length_map] at hi; exact hi
    obtain ⟨g, rfl⟩ := row_addr hpr (by omega)
    obtain ⟨_, cur, hI⟩ := ir_of_own hn hpr
    obtain ⟨b, o, hA, _, _, e1, e2, _⟩ := hI.prd i hi2
    cases hA
    have hlt := hI.b.lt
    refine ⟨g, 0, rfl, Or.inr rfl, ((hb12.cell (p := ⟨g, _, none⟩) hlt).trans e1).trans ?_, ((hb12.cell (p := ⟨g, _, none⟩) hlt).trans e2).trans ?_⟩
    · simp [freshE]
    · simp [freshE]
  · rw [hlen] at hi
    obtain ⟨b, rfl⟩ := row_addr h.own (by omega)
    refine ⟨b, 0, rfl, Or.inl rfl, ?_⟩
    have := h.own.cellAt i (by rw [Nat.mul_one]; exact hi)
    rw [Nat.zero_add, this]
    simp [ptrs, hi]
  · have hi2 : i < Ps.length := by rw [List.length_map] at hi; exact hi
    simpa using h.way i hi2 (by omega)
  · rw [hlen] at ha hb
    exact h.dj a b ha hb hne k h1 h2
  · rw [hlen] at ha
    rcases h2 with h2 | h2
    · exact h.sp a ha k h1 h2
    · have := h.fl a ha k h1; have := hm k h2; omega
  · rcases hk with hk | hk
    · exact (hv k hk).2
    · have := hm k hk; omega
  · rw [hlen] at ha
    exact (h.fl a ha k h1).2
  · have h9 := hPX k hk
    refine ⟨by omega, fun hy => ?_⟩
    rcases hall k hy with h8 | h8 <;> omega
  · rcases hall k hk with h8 | h8 <;> omega
end
end Go.Proofs.Ytlaakcgipecldaa
