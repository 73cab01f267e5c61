/-
  (*Table).Get, New, Len, Last, Whereis over a table as 'TabOK' has it.
-/
import Derived.Test.YtkiccfdfbmiooaaDoorTb
namespace Go.Proofs.YtkiccfdfbmiooaaDoor
open Go Go.RowKit
open Go.Maps (Keyed)

section
variable {w : World} {B T bp bn last c : Nat} {D1 D2 : DataW Unit} {N : Int → ByteArray}

theorem zero70 (w : World) : (zeroValue 70).run Tryd.prog w = .ok (.pointer none) w := by kernel_rfl
theorem zero3 (w : World) : (zeroValue 3).run Tryd.prog w = .ok (.int .i64 0) w := by kernel_rfl
theorem keyI_of {n : Int} (h : (Lit.int .i64 n).wf = true) : keyOf Tryd.prog 3 (.int .i64 n) = some (keyI n) := Maps.keyOf_int_mk Tryd.underlying3 h

/-- The look-up of a process. -/
theorem TabOK.look (h : TabOK w B T bp bn last c D1 D2 N) {pid : Int} (hw : (Lit.int .i64 pid).wf = true) :
    (Maps.has D1 (keyI pid) = false ∧ (Instr.lookup 64 (.map (some bp)) (.int .i64 pid) false).run Tryd.prog w = .ok (.pointer none) w) ∨
    (Maps.has D1 (keyI pid) = true ∧ ∃ b : Nat, PrOK w B b pid (N pid) ∧ D1.atKey (keyI pid) .nil = .ptr (.lit (.int .i64 b)) ∧ (Instr.lookup 64 (.map (some bp)) (.int .i64 pid) false).run Tryd.prog w = .ok (.pointer (some ⟨b, 0, none⟩)) w) := by
  obtain ⟨v, ps, hrun, hv⟩ := h.m1.lookup law3 Tryd.underlying64 (zero70 w) (z := .pointer none) (zd := .nil) (zp := []) rfl (keyI_of hw)
  cases hh : Maps.has D1 (keyI pid) with
  | false =>
    rw [Maps.atKey_of_not_has hh] at hv
    rw [ptrElem_nil hv] at hrun
    exact .inl ⟨rfl, hrun⟩
  | true =>
    obtain ⟨_, _, b, h3, h4⟩ := h.ps pid hh
    rw [h3] at hv
    rw [ptrElem_ptr hv] at hrun
    exact .inr ⟨rfl, b, h4, h3, hrun⟩

def GetNo (w : World) (e : Ending) (w' : World) : Prop := e = .returned (.tuple #[.agg #[.int .i64 0, .int .i64 0, .slice none 0 0, .slice none 0 0, .string ⟨#[]⟩, .bool false, .bool false, .slice none 0 0, .slice none 0 0], .bool false]) ∧ Below w.heap.size w w'
def GetYes (w : World) (pid : Int) (nm : ByteArray) (e : Ending) (w' : World) : Prop :=
  ∃ (parent : Int) (u2 : Value) (A3 : Option Addr) (C3 : Nat) (u : Option Addr × Nat × Nat × Option Addr × Nat × Nat), e = .returned (.tuple #[.agg #[.int .i64 pid, .int .i64 parent, u2, .slice A3 0 C3, .string nm, .bool false, .bool false, .slice u.1 u.2.1 u.2.2.1, .slice u.2.2.2.1 u.2.2.2.2.1 u.2.2.2.2.2], .bool true]) ∧ Stk w' w.heap.size u2 ∧ Below w.heap.size w w'

set_option maxRecDepth 100000 in
set_option maxHeartbeats 800000 in
theorem get_no (h : TabOK w B T bp bn last c D1 D2 N) {pid : Int} (hw : (Lit.int .i64 pid).wf = true) (hn : Maps.has D1 (keyI pid) = false) :
    Calls Tryd.prog 9 #[.pointer (some ⟨T, 0, none⟩), .int .i64 pid] w (GetNo w) := by
  go_enter Tryd.func9, Tryd.ntmps9
  go_upto_region 1 with (fail)
  refine wp_new1 _ _ _ ?_
  intro W hB hsz hb
  have h1 := h.below hB (Nat.le_refl _)
  have hl : (Instr.lookup 64 (.map (some bp)) (.int .i64 pid) false).run Tryd.prog W = .ok (.pointer none) W := by
    rcases h1.look hw with ⟨_, hr⟩ | ⟨hh, _⟩
    · exact hr
    · rw [hn] at hh; cases hh
  have c0 : W.cell? ⟨T, 0, none⟩ = some (.map (some bp)) := h1.tab.cell 0
  have HB := Lib.hid hb
  have HS := Lib.hid hsz
  clear hsz hb h h1 hn
  go_wp2_with (first
    | ((with_reducible refine wpList_load_b (ty := 46) (x := .tmp 4) w.heap.size 46 #[.int .i64 0, .int .i64 0, .slice none 0 0, .slice none 0 0, .string ⟨#[]⟩, .bool false, .bool false, .slice none 0 0, .slice none 0 0] _ ?_ ?_ Tryd.underlying46 ?_ ?_); rfl; exact HB.out; exact size46)
    | ((with_reducible refine wpList_store_b (ty := 46) (x := .tmp 4) (y := .tmp 17) w.heap.size 46 #[.int .i64 0, .int .i64 0, .slice none 0 0, .slice none 0 0, .string ⟨#[]⟩, .bool false, .bool false, .slice none 0 0, .slice none 0 0] #[.int .i64 0, .int .i64 0, .slice none 0 0, .slice none 0 0, .string ⟨#[]⟩, .bool false, .bool false, .slice none 0 0, .slice none 0 0] ?_ ?_ ?_ ?_ ?_ ?_ ?_); rfl; rfl; exact HB.out; exact size46; rfl; exact z9_one; intro w8 k8 g8 s8))
  refine bodyPost_ret (results_blk2 rfl _ _ w.heap.size 46 _ _ rfl k8 Tryd.underlying46 size46) rfl ?_
  exact ⟨rfl, hB.trans (below_of_grown g8 (Nat.le_refl _) (by have := HS.out; omega))⟩

set_option maxRecDepth 100000 in
set_option maxHeartbeats 800000 in
theorem get_yes (h : TabOK w B T bp bn last c D1 D2 N) {pid : Int} (hw : (Lit.int .i64 pid).wf = true) (hn : Maps.has D1 (keyI pid) = true) :
    Calls Tryd.prog 9 #[.pointer (some ⟨T, 0, none⟩), .int .i64 pid] w (GetYes w pid (N pid)) := by
  go_enter Tryd.func9, Tryd.ntmps9
  go_upto_region 1 with (fail)
  refine wp_new1 _ _ _ ?_
  intro W hB hsz hb
  have h1 := h.below hB (Nat.le_refl _)
  obtain ⟨b, hp, hl⟩ : ∃ b : Nat, PrOK W B b pid (N pid) ∧ (Instr.lookup 64 (.map (some bp)) (.int .i64 pid) false).run Tryd.prog W = .ok (.pointer (some ⟨b, 0, none⟩)) W := by
    rcases h1.look hw with ⟨hh, _⟩ | ⟨_, b, hp, _, hr⟩
    · rw [hn] at hh; cases hh
    · exact ⟨b, hp, hr⟩
  obtain ⟨_, parent, stk, links, n, k1, k2, k3⟩ := hp
  have c0 : W.cell? ⟨T, 0, none⟩ = some (.map (some bp)) := h1.tab.cell 0
  have HB := Lib.hid hb
  have HS := Lib.hid hsz
  have HK := Lib.hid k1
  have HC := copy_any (.int .i64 pid) (.int .i64 parent) stk (.slice none 0 0) (.string (N pid)) (.bool false) (.bool false) links (.slice none 0 0) W k2 (.inl rfl) k3.ok (.inl rfl) (by
    have o2 := k2.one
    have o7 := k3.one
    simp only [List.all_toArray, List.all_cons, List.all_nil, Bool.and_eq_true, Bool.and_true, o2, o7]
    simp [Value.oneCell'])
  have HC' := Lib.hid HC
  clear hsz hb h h1 hn k1 k2 k3 HC
  go_wp2_with (first
    | ((with_reducible refine wpList_load_b (ty := 46) (x := .tmp 24) b 46 _ _ ?_ HK.out Tryd.underlying46 ?_ ?_); rfl; exact size46)
    | (go_at_call 19; go_must (refine HC'.out.mono ?_); rintro e w2 ⟨u2, u3, u7, u8, rfl, hs2, hs3, hs7, hs8, hw2⟩; obtain ⟨g2, C2, rfl, _, _⟩ := hs2.form; obtain ⟨A3, C3, rfl⟩ := hs3.form; obtain ⟨A7, C7, rfl⟩ := hs7.form; obtain ⟨A8, C8, rfl⟩ := hs8.form; have HB2 := Lib.hid (HB.out.below hw2 (by have := HS.out; omega)); have HW := Lib.hid (hB.trans (hw2.mono (by have := HS.out; omega))); have HL := Lib.hid (Nat.lt_of_lt_of_le (show w.heap.size < W.heap.size by have := HS.out; omega) hw2.size); have hs9 := hs2.mono (B' := w.heap.size) (by have := HS.out; omega); clear hs2 hs3 hs7 hs8 hw2)
    | ((with_reducible refine wpList_store_b (ty := 46) (x := .tmp 4) (y := .tmp 26) w.heap.size 46 #[.int .i64 0, .int .i64 0, .slice none 0 0, .slice none 0 0, .string ⟨#[]⟩, .bool false, .bool false, .slice none 0 0, .slice none 0 0] #[.int .i64 pid, .int .i64 parent, .slice (some ⟨g2, 0, none⟩) 1 C2, .slice A3 0 C3, .string (N pid), .bool false, .bool false, .slice A7 (slen links) C7, .slice A8 0 C8] ?_ ?_ ?_ ?_ ?_ ?_ ?_); rfl; rfl; exact HB2.out; exact size46; rfl; (simp [Value.oneCell']); intro w8 k8 g8 s8))
  refine bodyPost_ret (results_blk2 rfl _ _ w.heap.size 46 _ _ rfl k8 Tryd.underlying46 size46) rfl ?_
  exact ⟨_, _, A3, C3, (A7, slen links, C7, A8, 0, C8), rfl, hs9.kept HB2.out (by omega) g8, HW.out.trans (below_of_grown g8 (Nat.le_refl _) (Nat.le_of_lt HL.out))⟩
end
end Go.Proofs.YtkiccfdfbmiooaaDoor
