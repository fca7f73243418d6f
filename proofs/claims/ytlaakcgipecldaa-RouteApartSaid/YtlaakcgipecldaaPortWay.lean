/- Contracts of package port: a way. -/
import Derived.Test.YtlaakcgipecldaaPortBase2
namespace Go.Proofs.Ytlaakcgipecldaa
set_option linter.all false
open Go.RowKit

/-- How a port stands. -/
structure WS where
  kind : Int
  size : Int
  lim : Int
  L : List ByteArray
  at_ : Int

def BoxP (w : World) (F : Nat → Prop) (v : Value) (s : WS) : Prop :=
  (s.kind = 1 ∧ ∃ gs m a b, v = .iface 68 (.pointer (some ⟨gs, 0, none⟩)) ∧ F gs ∧ Blk w gs 70 #[.string m, .int .i64 a, .int .i64 s.lim, .bool b] ∧ (b = true → s.L = [m] ∧ s.at_ = a ∧ 0 ≤ a ∧ a ≤ 1099511627776) ∧ (b = false → s.L = []))
  ∨ (s.kind = 2 ∧ ∃ gq rv, v = .iface 71 (.pointer (some ⟨gq, 0, none⟩)) ∧ F gq ∧ Blk w gq 73 #[rv, .int .i64 s.lim] ∧ QRow w F rv s.L)

def WayP (w : World) (F : Nat → Prop) (g : Nat) (s : WS) : Prop := ∃ v, F g ∧ Blk w g 49 #[.int .i64 s.size, v] ∧ BoxP w F v s

structure WOk (s : WS) : Prop where
  size : 1 ≤ s.size ∧ s.size ≤ 16
  smp : s.kind = 1 → 1 ≤ s.lim ∧ s.lim ≤ 64 ∧ s.L.length ≤ 1
  que : s.kind = 2 → 1 ≤ s.lim ∧ s.lim ≤ 4 ∧ (s.L.length : Int) ≤ s.lim

theorem m_sput (a : Option Addr) (w : World) : Sem.run Try.prog (method 238 68 (.pointer a) "escapement/port.put") w = .ok (85, .pointer a) w := by kernel_rfl
theorem c_sput (xs : Array Value) (w : World) : Sem.run Try.prog (callFunc 85 xs) w = .ok (.enter 85 xs) w := by kernel_rfl
theorem m_sget (a : Option Addr) (w : World) : Sem.run Try.prog (method 238 68 (.pointer a) "escapement/port.get") w = .ok (83, .pointer a) w := by kernel_rfl
theorem c_sget (xs : Array Value) (w : World) : Sem.run Try.prog (callFunc 83 xs) w = .ok (.enter 83 xs) w := by kernel_rfl
theorem m_smany (a : Option Addr) (w : World) : Sem.run Try.prog (method 238 68 (.pointer a) "escapement/port.many") w = .ok (84, .pointer a) w := by kernel_rfl
theorem c_smany (xs : Array Value) (w : World) : Sem.run Try.prog (callFunc 84 xs) w = .ok (.enter 84 xs) w := by kernel_rfl
theorem m_qput (a : Option Addr) (w : World) : Sem.run Try.prog (method 238 71 (.pointer a) "escapement/port.put") w = .ok (88, .pointer a) w := by kernel_rfl
theorem c_qput (xs : Array Value) (w : World) : Sem.run Try.prog (callFunc 88 xs) w = .ok (.enter 88 xs) w := by kernel_rfl
theorem m_qget (a : Option Addr) (w : World) : Sem.run Try.prog (method 238 71 (.pointer a) "escapement/port.get") w = .ok (86, .pointer a) w := by kernel_rfl
theorem c_qget (xs : Array Value) (w : World) : Sem.run Try.prog (callFunc 86 xs) w = .ok (.enter 86 xs) w := by kernel_rfl
theorem m_qmany (a : Option Addr) (w : World) : Sem.run Try.prog (method 238 71 (.pointer a) "escapement/port.many") w = .ok (87, .pointer a) w := by kernel_rfl
theorem c_qmany (xs : Array Value) (w : World) : Sem.run Try.prog (callFunc 87 xs) w = .ok (.enter 87 xs) w := by kernel_rfl

theorem within_any (n a b : Int) (w : World) :
    Calls Try.prog 34 #[.int .i64 n, .int .i64 a, .int .i64 b] w fun r w' => r = .returned (.bool (decide (a ≤ n ∧ n ≤ b))) ∧ w = w' := by
  by_cases h1 : a ≤ n
  · by_cases h2 : n ≤ b
    · go_enter Try.func34, Try.ntmps34
      go_wp2_with fail
      go_ret
      exact ⟨ret_bool (by simp [h1, h2]), rfl⟩
    · go_enter Try.func34, Try.ntmps34
      go_wp2_with fail
      go_ret
      exact ⟨ret_bool (by simp <;> omega), rfl⟩
  · go_enter Try.func34, Try.ntmps34
    go_wp2_with fail
    go_ret
    exact ⟨ret_bool (by simp <;> omega), rfl⟩

theorem wnone_any {w : World} {F : Nat → Prop} {g : Nat} {s : WS} (h : WayP w F g s) :
    Calls Try.prog 33 #[.pointer (some ⟨g, 0, none⟩)] w fun r w' => r = .returned (.bool false) ∧ w = w' := by
  obtain ⟨v, _, hb, hx⟩ := h
  have c1 := hb.cell 1
  simp at c1
  clear hb
  rcases hx with ⟨_, gs, m, a, b, rfl, _⟩ | ⟨_, gq, rv, rfl, _⟩
  all_goals
    go_enter Try.func33, Try.ntmps33
    go_wp2_with fail
    go_ret
    exact ⟨rfl, rfl⟩

def growF (F : Nat → Prop) (w w' : World) : Nat → Prop := fun k => F k ∨ (w.heap.size ≤ k ∧ k < w'.heap.size)
def emptyS : ByteArray := ⟨#[]⟩
def sendE (s : WS) (n : Nat) (t : Int) : Int := if s.size < n ∨ ¬ (0 ≤ t ∧ t ≤ 1099511627776) then 2 else if s.kind = 1 then 0 else if (s.L.length : Int) = s.lim then 7 else 0
def sendS (s : WS) (m : ByteArray) (t : Int) : WS := if sendE s m.size t = 0 then (if s.kind = 1 then { s with L := [m], at_ := t } else { s with L := s.L ++ [m] }) else s
def recvE (s : WS) (t : Int) : Int := if 0 ≤ t ∧ t ≤ 1099511627776 then (if s.L.length = 0 then 8 else 0) else 2
def recvM (s : WS) (t : Int) : ByteArray := if recvE s t = 0 then s.L.headD emptyS else emptyS
def recvB (s : WS) (t : Int) : Bool := if recvE s t = 0 then (if s.kind = 1 then decide (t - s.at_ ≤ s.lim) else true) else false
def recvS (s : WS) (t : Int) : WS := if recvE s t = 0 ∧ s.kind ≠ 1 then { s with L := s.L.tail } else s
def clearS (s : WS) : WS := { s with L := [] }

theorem BoxP.upd {S F : Nat → Prop} {w w' : World} {v : Value} {s : WS} (h : BoxP w F v s) (hu : Upd S w w') (hs : ∀ k, F k → ¬ S k) : BoxP w' F v s := by
  rcases h with ⟨hk, gs, m, a, b, hv, hF, hb, h2⟩ | ⟨hk, gq, rv, hv, hF, hb, hq⟩
  · exact Or.inl ⟨hk, gs, m, a, b, hv, hF, hb.upd hu (hs _ hF), h2⟩
  · exact Or.inr ⟨hk, gq, rv, hv, hF, hb.upd hu (hs _ hF), hq.upd hu hs⟩
theorem BoxP.mono {F F' : Nat → Prop} {w : World} {v : Value} {s : WS} (h : BoxP w F v s) (hs : ∀ k, F k → F' k) : BoxP w F' v s := by
  rcases h with ⟨hk, gs, m, a, b, hv, hF, h2⟩ | ⟨hk, gq, rv, hv, hF, hb, hq⟩
  · exact Or.inl ⟨hk, gs, m, a, b, hv, hs _ hF, h2⟩
  · exact Or.inr ⟨hk, gq, rv, hv, hs _ hF, hb, hq.mono hs⟩
theorem WayP.upd {S F : Nat → Prop} {w w' : World} {g : Nat} {s : WS} (h : WayP w F g s) (hu : Upd S w w') (hs : ∀ k, F k → ¬ S k) : WayP w' F g s := by
  obtain ⟨v, hF, hb, hx⟩ := h
  exact ⟨v, hF, hb.upd hu (hs _ hF), hx.upd hu hs⟩
theorem WayP.mono {F F' : Nat → Prop} {w : World} {g : Nat} {s : WS} (h : WayP w F g s) (hs : ∀ k, F k → F' k) : WayP w F' g s := by
  obtain ⟨v, hF, hb, hx⟩ := h
  exact ⟨v, hs _ hF, hb, hx.mono hs⟩

set_option maxRecDepth 100000 in
set_option maxHeartbeats 1000000 in
theorem bmany {w : World} {F : Nat → Prop} {v : Value} {s : WS} (hx : BoxP w F v s) (ho : WOk s) : ∃ t a f, v = .iface t (.pointer a) ∧ (∀ w : World, Sem.run Try.prog (method 238 t (.pointer a) "escapement/port.many") w = .ok (f, .pointer a) w) ∧ (∀ xs (w : World), Sem.run Try.prog (callFunc f xs) w = .ok (.enter f xs) w) ∧
    Calls Try.prog f #[.pointer a] w fun r w' => r = .returned (.int .i64 s.L.length) ∧ w = w' := by
  rcases hx with ⟨hk, gs, m, a, b, rfl, _, hs, h1, h0⟩ | ⟨hk, gq, rv, rfl, _, hq, hrow⟩
  · refine ⟨_, _, 84, rfl, m_smany _, c_smany, ?_⟩
    have hl : (s.L.length : Int) = if b then 1 else 0 := by
      cases b with
      | true => rw [(h1 rfl).1]; rfl
      | false => rw [h0 rfl]; rfl
    rw [hl]
    exact smany_any hs
  · refine ⟨_, _, 87, rfl, m_qmany _, c_qmany, ?_⟩
    exact qmany_any hq hrow (by have := ho.que hk; omega)

set_option maxRecDepth 100000 in
set_option maxHeartbeats 1000000 in
theorem wlen_any {w : World} {F : Nat → Prop} {g : Nat} {s : WS} (h : WayP w F g s) (ho : WOk s) :
    Calls Try.prog 14 #[.pointer (some ⟨g, 0, none⟩)] w fun r w' => r = .returned (.int .i64 s.L.length) ∧ w = w' := by
  have H := Lib.hid h
  obtain ⟨v, _, hb, hx⟩ := h
  have c1 := hb.cell 1
  simp at c1
  obtain ⟨t, a, f, rfl, hm, hc, hcall⟩ := bmany hx ho
  have HC := Lib.hid hcall
  clear hb ho hcall hx
  go_enter Try.func14, Try.ntmps14
  go_wp2_with (go_at_call 33; refine (wnone_any H.out).mono ?_; rintro r w1 ⟨rfl, rfl⟩)
  refine HC.out.mono ?_
  rintro r w1 ⟨rfl, rfl⟩
  go_wp2_with fail
  go_ret
  exact ⟨rfl, rfl⟩
end Go.Proofs.Ytlaakcgipecldaa
