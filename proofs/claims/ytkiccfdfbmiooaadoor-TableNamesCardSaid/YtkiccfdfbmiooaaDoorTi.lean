/-
  New, Whereis, Last, Len, Drop, Name over a table as 'TabOK' has it.
-/
import Derived.Test.YtkiccfdfbmiooaaDoorTh
namespace Go.Proofs.YtkiccfdfbmiooaaDoor
open Go Go.RowKit
open Go.Maps (Keyed)

section
variable {w : World} {B T bp bn last c : Nat} {D1 D2 : DataW Unit} {N : Int → ByteArray}

def NewT (w : World) (e : Ending) (w' : World) : Prop :=
  ∃ T bp bn, e = .returned (.pointer (some ⟨T, 0, none⟩)) ∧ TabOK w' w.heap.size T bp bn 0 0 (.map []) (.map []) (fun _ => ⟨#[]⟩) ∧ Below w.heap.size w w'
theorem has_none (k : Lit) : Maps.has (.map [] : DataW Unit) k = false := rfl
theorem empty_tab (w : World) : TabOK ((((w.alloc (.map #[] 0)).alloc (.map #[] 0))).alloc (.cells #[.map (some w.heap.size), .map (some (w.heap.size + 1)), .int .i64 0] 67)) w.heap.size (w.heap.size + 2) w.heap.size (w.heap.size + 1) 0 0 (.map []) (.map []) (fun _ => ⟨#[]⟩) := by
  refine ⟨by omega, ?_, ?_, ?_, by omega, fun _ h => (by cases h), fun _ _ _ h => (by cases h), fun _ h => (by cases h), fun _ h => (by cases h), fun _ h => (by cases h)⟩
  · have := Blk.new ((w.alloc (.map #[] 0)).alloc (.map #[] 0)) 67 #[.map (some w.heap.size), .map (some (w.heap.size + 1)), .int .i64 0]
    simpa using this
  · exact (((World.ownsMap_made w _ _ _).alloc _).alloc _)
  · have := (World.ownsMap_made (w.alloc (.map #[] 0)) Tryd.prog 9 (plainElem (H := Unit) Tryd.prog 3)).alloc (.cells #[.map (some w.heap.size), .map (some (w.heap.size + 1)), .int .i64 0] 67)
    simpa using this
set_option maxRecDepth 100000 in
theorem new_tab (w : World) : Calls Tryd.prog 7 #[] w (NewT w) := by
  have hmm := @run_makeMap Tryd.prog
  go_enter Tryd.func7, Tryd.ntmps7
  go_wp2
  go_ret
  refine ⟨_, _, _, rfl, empty_tab w, ?_⟩
  exact (((Below.refl w.heap.size w).alloc (Nat.le_refl _) _).alloc (by simp) _).alloc (by simp; omega) _

def Ret (w : World) (r : Value) (e : Ending) (w' : World) : Prop := e = .returned r ∧ Below w.heap.size w w'
set_option maxRecDepth 100000 in
theorem whereis_tab (h : TabOK w B T bp bn last c D1 D2 N) {s : ByteArray} (hs : s.size ≤ maxLen) :
    ∃ n : Int, D2.atKey (keyS s) (.lit (.int .i64 0)) = .lit (.int .i64 n) ∧ Calls Tryd.prog 11 #[.pointer (some ⟨T, 0, none⟩), .string s] w (Ret w (.tuple #[.int .i64 n, .bool (Maps.has D2 (keyS s))])) := by
  obtain ⟨n, hn, hl⟩ := h.lookS hs
  refine ⟨n, hn, ?_⟩
  have c1 : w.cell? ⟨T, 1, none⟩ = some (.map (some bn)) := h.tab.cell 1
  clear h
  go_enter Tryd.func11, Tryd.ntmps11
  go_wp2
  go_ret2
  exact ⟨rfl, Below.refl _ _⟩

set_option maxRecDepth 100000 in
theorem len_tab (h : TabOK w B T bp bn last c D1 D2 N) : Calls Tryd.prog 15 #[.pointer (some ⟨T, 0, none⟩)] w (Ret w (.int .i64 (Maps.size D1))) := by
  have c0 : w.cell? ⟨T, 0, none⟩ = some (.map (some bp)) := h.tab.cell 0
  have hl := h.m1.len Tryd.underlying64
  clear h
  go_enter Tryd.func15, Tryd.ntmps15
  go_wp2
  go_ret
  exact ⟨rfl, Below.refl _ _⟩

set_option maxRecDepth 100000 in
theorem last_tab (h : TabOK w B T bp bn last c D1 D2 N) : Calls Tryd.prog 14 #[.pointer (some ⟨T, 0, none⟩)] w (Ret w (.int .i64 last)) := by
  have c0 : w.cell? ⟨T, 2, none⟩ = some (.int .i64 last) := h.tab.cell 2
  clear h
  go_enter Tryd.func14, Tryd.ntmps14
  go_wp2
  go_ret
  exact ⟨rfl, Below.refl _ _⟩

theorem look_not (h : TabOK w B T bp bn last c D1 D2 N) {pid : Int} (hw : (Lit.int .i64 pid).wf = true) (hn : Maps.has D1 (keyI pid) = false) : (Instr.lookup 64 (.map (some bp)) (.int .i64 pid) false).run Tryd.prog w = .ok (.pointer none) w := by
  rcases h.look hw with ⟨_, hr⟩ | ⟨hh, _⟩
  · exact hr
  · rw [hn] at hh; cases hh
theorem look_yes (h : TabOK w B T bp bn last c D1 D2 N) {pid : Int} (hw : (Lit.int .i64 pid).wf = true) (hn : Maps.has D1 (keyI pid) = true) : ∃ b : Nat, PrOK w B b pid (N pid) ∧ D1.atKey (keyI pid) .nil = .ptr (.lit (.int .i64 b)) ∧ (Instr.lookup 64 (.map (some bp)) (.int .i64 pid) false).run Tryd.prog w = .ok (.pointer (some ⟨b, 0, none⟩)) w := by
  rcases h.look hw with ⟨hh, _⟩ | ⟨_, hr⟩
  · rw [hn] at hh; cases hh
  · exact hr

set_option maxRecDepth 100000 in
theorem drop_no (h : TabOK w B T bp bn last c D1 D2 N) {pid : Int} (hw : (Lit.int .i64 pid).wf = true) (hn : Maps.has D1 (keyI pid) = false) : Calls Tryd.prog 10 #[.pointer (some ⟨T, 0, none⟩), .int .i64 pid] w (Ret w (.int .i64 4)) := by
  have hl := look_not h hw hn
  have c0 : w.cell? ⟨T, 0, none⟩ = some (.map (some bp)) := h.tab.cell 0
  clear h
  go_enter Tryd.func10, Tryd.ntmps10
  go_wp2
  go_ret
  exact ⟨rfl, Below.refl _ _⟩

/-- What Drop does to a table that holds the process. -/
def DropPost (w : World) (B T bp bn last c : Nat) (D1 D2 : DataW Unit) (N : Int → ByteArray) (pid : Int) (e : Ending) (w' : World) : Prop :=
  e = .returned (.int .i64 0) ∧ TabOK w' B T bp bn last c (D1.del (keyI pid)) (D2.del (keyS (N pid))) N ∧ Below B w w' ∧ ∀ (g t : Nat) (cs : Array Value), Blk w g t cs → Blk w' g t cs
theorem TabOK.procs_at (h : TabOK w B T bp bn last c D1 D2 N) {w1 : World} (hg : w.grownBy w1 (some bn)) : w1.cell? ⟨T, 0, none⟩ = some (.map (some bp)) := by
  obtain ⟨es, cl, hm⟩ := own_map_heap h.m2
  exact (h.tab.grown hg (fun e => blk_ne_map h.tab hm (by injection e))).cell 0
set_option maxRecDepth 100000 in
set_option maxHeartbeats 800000 in
theorem drop_yes (h : TabOK w B T bp bn last c D1 D2 N) (hB : B ≤ w.heap.size) {pid : Int} (hw : (Lit.int .i64 pid).wf = true) (hp : Maps.has D1 (keyI pid) = true) : Calls Tryd.prog 10 #[.pointer (some ⟨T, 0, none⟩), .int .i64 pid] w (DropPost w B T bp bn last c D1 D2 N pid) := by
  obtain ⟨b, hpr, hat, hl⟩ := look_yes h hw hp
  obtain ⟨hBb, parent, stk, links, n, k1, k2, k3⟩ := hpr
  have c0 : w.cell? ⟨T, 0, none⟩ = some (.map (some bp)) := h.tab.cell 0
  have c1 : w.cell? ⟨T, 1, none⟩ = some (.map (some bn)) := h.tab.cell 1
  have d4 : w.cell? ⟨b, 4, none⟩ = some (.string (N pid)) := k1.cell 4
  have hkey := keyS_of (s := N pid) (Nat.le_trans (h.ln pid hp) (by unfold maxLen; omega))
  have hkey1 := keyI_of hw
  have H := Lib.hid h
  clear h k1 k2 k3
  go_enter Tryd.func10, Tryd.ntmps10
  go_upto_region 6 with (fail)
  refine wp_region_K (fun w' => w'.cell? ⟨T, 1, none⟩ = some (.map (some bn)) ∧ w'.cell? ⟨b, 4, none⟩ = some (.string (N pid))) 8 (by kernel_rfl) ⟨c1, d4⟩ (fun hS => ?_)
  refine wpAnyK_take (i := 0) (dst := some 16) (v := ?_) rfl rfl (by kernel_rfl) (by kernel_rfl) (fun _ _ _ h => h) (Or.inl ⟨by rfl, ?_⟩) (by assumption) ?_
  rotate_left
  · (intro wS hS; (try dsimp only at hS); go_simp; try rfl)
  try simp only [Act.put, List.setIfInBounds_toArray, List.set_cons_zero, List.set_cons_succ]
  refine wpAnyK_take (i := 1) (dst := some 17) (v := ?_) rfl rfl (by kernel_rfl) (by kernel_rfl) (fun _ _ _ h => h) (Or.inl ⟨by rfl, ?_⟩) (by assumption) ?_
  rotate_left
  · (intro wS hS; (try dsimp only at hS); go_simp; try rfl)
  try simp only [Act.put, List.setIfInBounds_toArray, List.set_cons_zero, List.set_cons_succ]
  refine wpAnyK_take (i := 2) (dst := some 18) (v := ?_) rfl rfl (by kernel_rfl) (by kernel_rfl) (fun _ _ _ h => h) (Or.inl ⟨by rfl, ?_⟩) (by assumption) ?_
  rotate_left
  · (intro wS hS; (try dsimp only at hS); go_simp; try rfl)
  try simp only [Act.put, List.setIfInBounds_toArray, List.set_cons_zero, List.set_cons_succ]
  refine wpAnyK_take (i := 3) (dst := some 19) (v := ?_) rfl rfl (by kernel_rfl) (by kernel_rfl) (fun _ _ _ h => h) (Or.inl ⟨by rfl, ?_⟩) (by assumption) ?_
  rotate_left
  · (intro wS hS; (try dsimp only at hS); go_simp; try rfl)
  try simp only [Act.put, List.setIfInBounds_toArray, List.set_cons_zero, List.set_cons_succ]
  refine wpAnyK_take (i := 4) (dst := some 20) (v := ?_) rfl rfl (by kernel_rfl) (by kernel_rfl) (fun _ _ _ h => h) (Or.inl ⟨by rfl, ?_⟩) (by assumption) ?_
  rotate_left
  · (intro wS hS; (try dsimp only at hS); go_simp; try rfl)
  try simp only [Act.put, List.setIfInBounds_toArray, List.set_cons_zero, List.set_cons_succ]
  refine wpAnyK_take (i := 5) (dst := some 21) (v := ?_) rfl rfl (by kernel_rfl) (by kernel_rfl) (fun _ _ _ h => h) (Or.inl ⟨by rfl, ?_⟩) (by assumption) ?_
  rotate_left
  · (intro wS hS; (try dsimp only at hS); go_simp; try rfl)
  try simp only [Act.put, List.setIfInBounds_toArray, List.set_cons_zero, List.set_cons_succ]
  refine wpAnyK_take (i := 6) (dst := some 22) (v := ?_) rfl rfl (by kernel_rfl) (by kernel_rfl) (fun _ _ _ h => h) (Or.inl ⟨by rfl, ?_⟩) (by assumption) ?_
  rotate_left
  · (intro wS hS; (try dsimp only at hS); go_simp; try rfl)
  try simp only [Act.put, List.setIfInBounds_toArray, List.set_cons_zero, List.set_cons_succ]
  refine wpAnyK_take (i := 7) (dst := some 23) (v := ?_) rfl rfl (by kernel_rfl) (by kernel_rfl) (fun _ _ _ h => h) (Or.inl ⟨by rfl, ?_⟩) (by assumption) ?_
  rotate_left
  · (intro wS hS; (try dsimp only at hS); go_simp; try rfl)
  try simp only [Act.put, List.setIfInBounds_toArray, List.set_cons_zero, List.set_cons_succ]
  refine wpAnyK_tail (n := 8) rfl (by kernel_rfl) (by kernel_rfl) ?_
  simp only [List.drop_succ_cons, List.drop_zero]
  clear hS
  go_wp2_with (first
    | (at_delete; refine wpList_delete_own _ rfl _ _ 65 9 rfl 3 law9 Tryd.underlying65 _ bn c D2 rfl H.out.drew.m2 _ _ rfl hkey ?_; intro w1 hown1 hturn1; have e1 := H.out.drew.procs_at hturn1.grown)
    | (at_delete; refine wpList_delete_own _ rfl _ _ 64 3 rfl 70 law3 Tryd.underlying64 _ bp last D1 rfl (H.out.drew.m1.kept hturn1.grown (fun e => H.out.ne (by injection e))) _ _ rfl hkey1 ?_; intro w2 hown2 hturn2))
  go_ret
  have g1 := hturn1.grown
  have g2 := hturn2.grown
  have lo := H.out.lo
  have b1 : Below B w w1 := (Below.refl B w).drew.trans (below_of_grown g1 lo.2.2 hB)
  refine ⟨rfl, H.out.drew.dropped hp hown1 g1 hown2 g2, b1.trans (below_of_grown g2 lo.2.1 (Nat.le_trans hB b1.size)), fun g t cs hg => ?_⟩
  obtain ⟨es, cl, hm⟩ := own_map_heap H.out.m2
  obtain ⟨es1, cl1, hm1⟩ := own_map_heap (H.out.drew.m1.kept g1 (fun e => H.out.ne (by injection e)))
  have k1 : Blk w1 g t cs := hg.drew.grown g1 (fun e => blk_ne_map hg hm (by injection e))
  exact k1.grown g2 (fun e => blk_ne_map k1 hm1 (by injection e))
end
end Go.Proofs.YtkiccfdfbmiooaaDoor

