/- Clear and Reach of the document's answer. Conditions: the ports are sound. -/
import Derived.Test.YtlaakcgipecldaaRrOps
namespace Go.Proofs.Ytlaakcgipecldaa
set_option linter.all false
open Go.RowKit

section
variable {w : World} {S : Nat → Prop} {F : Nat → Nat → Prop} {rp : Nat} {L : List RE} {A : Option Addr} {gs : Nat → Nat}

set_option maxRecDepth 100000 in
set_option maxHeartbeats 2000000 in
theorem rclear_p (h : RlP w S F rp L A gs) (ho : Sound L) (hl : L.length ≤ 1000) (part : Int) :
    Calls Try.prog 38 #[.pointer (some ⟨rp, 0, none⟩), .int .i64 part] w fun e w' =>
      e = .returned (.int .i64 (clrN part L)) ∧ RlP w' S F rp (clrL part L L.length) A gs ∧ Upd (FU F L.length) w w' := by
  have H := Lib.hid h
  have HO := Lib.hid ho
  have H4 := Lib.hid ho.l4
  clear h ho
  go_enter Try.func38, Try.ntmps38
  go_wp2_with fail
  go_loopw [5, 6] (fun n p wr => ∃ k : Nat, k ≤ L.length ∧ p = .int .i64 (k : Int) ∧ n = .int .i64 (clrN part (L.take k)) ∧ Hid (RlP wr S F rp (clrL part L k) A gs ∧ Upd (FU F L.length) w wr)) (fun _ p _ => L.length - (intOf p).toNat)
  case atStart => exact ⟨0, by omega, rfl, by simp [clrN], by simpa [clrL] using H.out, Upd.refl _ _⟩
  case round =>
    obtain ⟨k, hk, rfl, rfl, HR⟩ := hrel
    obtain ⟨c, hc⟩ := HR.out.1.rt
    have c0 := hc.cell 0
    simp at c0
    rw [clrL_length] at c0
    clear hc
    by_cases hk2 : k < L.length
    · have d1 : decide (k < L.length) = true := decide_eq_true hk2
      obtain ⟨b, o, hA, _, c3⟩ := HR.out.1.row k (by rw [clrL_length]; exact hk2)
      subst hA
      obtain ⟨w1, w2⟩ := rway HR.out.1 k (by rw [clrL_length]; exact hk2)
      rw [clrL_at] at w1 w2
      have HWp := Lib.hid (HR.out.1.way k (by rw [clrL_length]; exact hk2))
      rw [clrL_at] at HWp
      have HOk := Lib.hid (HO.out k hk2)
      have hr1 := clrN_range part (L.take k) fun e he => H4.out e (List.mem_of_mem_take he)
      have hr2 := clrN_succ part L k hk2
      have hl4 := H4.out L[k] (List.getElem_mem hk2)
      rw [List.length_take] at hr1
      obtain ⟨tt, htt⟩ : ∃ x, L[k].t = x := ⟨_, rfl⟩
      obtain ⟨nn, hnn⟩ : ∃ x, clrN part (L.take k) = x := ⟨_, rfl⟩
      obtain ⟨ln, hln⟩ : ∃ x, L[k].s.L.length = x := ⟨_, rfl⟩
      rw [htt] at w2 hr2
      rw [hnn] at hr1 hr2 ⊢
      rw [hln] at hr2 hl4
      have HLN := Lib.hid hln
      have HTT := Lib.hid htt
      have HR2 := Lib.hid hr2
      have hb0 : 0 ≤ nn := hr1.1
      have hb1 : nn ≤ 4000 := by omega
      clear hr1 hr2 hln htt
      by_cases ht : tt = part
      · have d2 : (tt == part) = true := by simp [ht]
        go_wp2_with (first
          | (go_at_call 22; refine (qlen_any HWp.out (HLN.out.symm ▸ hl4)).mono ?_; rintro e w' ⟨rfl, rfl⟩; rw [HLN.out])
          | (go_at_call 21; refine (qclear_any HWp.out).mono ?_; rintro e w9 ⟨rfl, hp, hu⟩
             have hkc : k < (clrL part L k).length := by rw [clrL_length]; exact hk2
             have hp2 : RwQ ((clrL part L k)[k]'hkc).f ((clrL part L k)[k]'hkc).t w9 (F k) (gs k) (clearS L[k].s) := by rw [clrL_at]; exact hp
             have HP := Lib.hid (And.intro (HR.out.1.on (by rw [clrL_length]; exact hk2) hp2 (fun _ h => Or.inl h) hu) hu); clear hp hp2 hu))
        have hh := clr_hit part L k hk2 (HTT.out.trans ht)
        refine ⟨⟨k + 1, by omega, rfl, by rw [HR2.out, if_pos ht], ?_, HR.out.2.trans (HP.out.2.mono fun x hx => ⟨k, hk2, hx⟩)⟩, by simp [intOf]; omega⟩
        have h9 := HP.out.1
        rw [hh] at h9
        have he : onF F k (F k) = F := by
          funext j
          by_cases e : j = k
          · subst e; exact onF_same _ _ _
          · exact onF_other _ _ _ _ e
        rw [he] at h9
        exact h9
      · have d2 : (tt == part) = false := by simp [ht]
        go_wp2_with fail
        exact ⟨⟨k + 1, by omega, rfl, by rw [HR2.out, if_neg ht]; simp, by rw [clr_miss part L k hk2 (fun e => ht (HTT.out.symm.trans e))]; exact HR.out⟩, by simp [intOf]; omega⟩
    · have d1 : decide (k < L.length) = false := decide_eq_false hk2
      go_wp2_with fail
      go_ret
      have e : k = L.length := by omega
      subst e
      exact ⟨by rw [List.take_length]; rfl, HR.out.1, HR.out.2⟩
end
end Go.Proofs.Ytlaakcgipecldaa
