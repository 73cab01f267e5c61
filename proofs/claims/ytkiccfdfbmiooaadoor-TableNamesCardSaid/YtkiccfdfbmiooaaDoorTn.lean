/-
  (*Table).Name over a table as 'TabOK' has it.
-/
import Derived.Test.YtkiccfdfbmiooaaDoorTi
namespace Go.Proofs.YtkiccfdfbmiooaaDoor
open Go Go.RowKit
open Go.Maps (Keyed)

section
variable {w : World} {B T bp bn last c : Nat} {D1 D2 : DataW Unit} {N : Int → ByteArray}

set_option maxRecDepth 100000 in
theorem name_no (h : TabOK w B T bp bn last c D1 D2 N) {pid : Int} {s : ByteArray} (hw : (Lit.int .i64 pid).wf = true) (hs : s.size ≤ 140737488351232) (hn : Maps.has D1 (keyI pid) = false) : Calls Tryd.prog 12 #[.pointer (some ⟨T, 0, none⟩), .int .i64 pid, .string s] w (Ret w (.int .i64 4)) := by
  have hl := look_not h hw hn
  obtain ⟨n, _, hl2⟩ := h.lookS (s := s) (by unfold maxLen; omega)
  have c0 : w.cell? ⟨T, 0, none⟩ = some (.map (some bp)) := h.tab.cell 0
  have c1 : w.cell? ⟨T, 1, none⟩ = some (.map (some bn)) := h.tab.cell 1
  clear h
  go_enter Tryd.func12, Tryd.ntmps12
  go_wp2
  go_ret
  exact ⟨rfl, Below.refl _ _⟩

set_option maxRecDepth 100000 in
theorem name_bad (h : TabOK w B T bp bn last c D1 D2 N) (hL : Letters w) {pid : Int} {s : ByteArray} (hw : (Lit.int .i64 pid).wf = true) (hs : s.size ≤ 140737488351232) (hn : Maps.has D1 (keyI pid) = true) (hm : mayB s.data.toList = false) : Calls Tryd.prog 12 #[.pointer (some ⟨T, 0, none⟩), .int .i64 pid, .string s] w (Ret w (.int .i64 2)) := by
  obtain ⟨b, hpr, hat, hl⟩ := look_yes h hw hn
  obtain ⟨n, _, hl2⟩ := h.lookS (s := s) (by unfold maxLen; omega)
  have c0 : w.cell? ⟨T, 0, none⟩ = some (.map (some bp)) := h.tab.cell 0
  have c1 : w.cell? ⟨T, 1, none⟩ = some (.map (some bn)) := h.tab.cell 1
  have HM := Lib.hid (may_any s w hs hL)
  rw [hm] at HM
  clear h hpr hL
  go_enter Tryd.func12, Tryd.ntmps12
  go_wp2_with (first
    | (go_at_call 20; go_must (refine HM.out.mono ?_); rintro e w1 ⟨rfl, hw1⟩))
  go_ret
  exact ⟨rfl, hw1⟩

set_option maxRecDepth 100000 in
theorem name_had (h : TabOK w B T bp bn last c D1 D2 N) (hL : Letters w) {pid : Int} {s : ByteArray} (hw : (Lit.int .i64 pid).wf = true) (hs : s.size ≤ 140737488351232) (hn : Maps.has D1 (keyI pid) = true) (hm : mayB s.data.toList = true) (hz : (N pid).size ≠ 0) : Calls Tryd.prog 12 #[.pointer (some ⟨T, 0, none⟩), .int .i64 pid, .string s] w (Ret w (.int .i64 2)) := by
  obtain ⟨b, hpr, hat, hl⟩ := look_yes h hw hn
  obtain ⟨_, parent, stk, links, nn, k1, k2, k3⟩ := hpr
  obtain ⟨n, _, hl2⟩ := h.lookS (s := s) (by unfold maxLen; omega)
  have c0 : w.cell? ⟨T, 0, none⟩ = some (.map (some bp)) := h.tab.cell 0
  have c1 : w.cell? ⟨T, 1, none⟩ = some (.map (some bn)) := h.tab.cell 1
  have HM := Lib.hid (may_any s w hs hL)
  have HK := Lib.hid k1
  rw [hm] at HM
  have q1 : (N pid).toList.isEmpty = false := by
    rw [ByteArray.toList_eq, List.isEmpty_eq_false_iff]
    intro e
    exact hz (by have := congrArg List.length e; rw [Array.length_toList] at this; exact this)
  clear h hL k1 k2 k3 hz
  go_enter Tryd.func12, Tryd.ntmps12
  go_wp2_with (first
    | (go_at_call 20; go_must (refine HM.out.mono ?_); rintro e w1 ⟨rfl, hw1⟩; have d4 := (HK.out.below hw1 HK.out.lt).cell 4; simp only [List.getElem?_toArray, List.getElem?_cons_succ, List.getElem?_cons_zero] at d4))
  go_ret
  exact ⟨rfl, hw1⟩

set_option maxRecDepth 100000 in
theorem name_twice (h : TabOK w B T bp bn last c D1 D2 N) (hL : Letters w) {pid : Int} {s : ByteArray} (hw : (Lit.int .i64 pid).wf = true) (hs : s.size ≤ 140737488351232) (hn : Maps.has D1 (keyI pid) = true) (hm : mayB s.data.toList = true) (hz : (N pid).size = 0) (ht : Maps.has D2 (keyS s) = true) : Calls Tryd.prog 12 #[.pointer (some ⟨T, 0, none⟩), .int .i64 pid, .string s] w (Ret w (.int .i64 91)) := by
  obtain ⟨b, hpr, hat, hl⟩ := look_yes h hw hn
  obtain ⟨_, parent, stk, links, nn, k1, k2, k3⟩ := hpr
  obtain ⟨n, _, hl2⟩ := h.lookS (s := s) (by unfold maxLen; omega)
  rw [ht] at hl2
  have c0 : w.cell? ⟨T, 0, none⟩ = some (.map (some bp)) := h.tab.cell 0
  have c1 : w.cell? ⟨T, 1, none⟩ = some (.map (some bn)) := h.tab.cell 1
  have HM := Lib.hid (may_any s w hs hL)
  have hz0 : N pid = ⟨#[]⟩ := ByteArray.ext (Array.eq_empty_of_size_eq_zero hz)
  rw [hz0] at k1
  have HK := Lib.hid k1
  rw [hm] at HM
  clear h hL k1 k2 k3 hz hz0
  go_enter Tryd.func12, Tryd.ntmps12
  go_wp2_with (first
    | (go_at_call 20; go_must (refine HM.out.mono ?_); rintro e w1 ⟨rfl, hw1⟩; have d4 := (HK.out.below hw1 HK.out.lt).cell 4; simp only [List.getElem?_toArray, List.getElem?_cons_succ, List.getElem?_cons_zero] at d4))
  go_ret
  exact ⟨rfl, hw1⟩

theorem mayB_size {s : ByteArray} (h : mayB s.data.toList = true) : s.size ≠ 0 ∧ s.size ≤ 32 := by
  have e : s.data.toList.length = s.size := Array.length_toList
  simp only [mayB, fitsB, Bool.and_eq_true, decide_eq_true_eq] at h
  omega

def NamePost (w : World) (B T bp bn last c : Nat) (D1 D2 : DataW Unit) (N : Int → ByteArray) (pid : Int) (s : ByteArray) (e : Ending) (w' : World) : Prop :=
  e = .returned (.int .i64 0) ∧ TabOK w' B T bp bn last (c + 1) D1 (D2.put (keyS s) (.lit (.int .i64 pid))) (fun p => if p = pid then s else N p) ∧ Below B w w'
set_option maxRecDepth 100000 in
set_option maxHeartbeats 800000 in
theorem name_ok (h : TabOK w B T bp bn last c D1 D2 N) (hB : B ≤ w.heap.size) (hL : Letters w) (hc : c < maxLen) {pid : Int} {s : ByteArray} (hw : (Lit.int .i64 pid).wf = true) (hs : s.size ≤ 140737488351232) (hn : Maps.has D1 (keyI pid) = true) (hm : mayB s.data.toList = true) (hz : (N pid).size = 0) (ht : Maps.has D2 (keyS s) = false) : Calls Tryd.prog 12 #[.pointer (some ⟨T, 0, none⟩), .int .i64 pid, .string s] w (NamePost w B T bp bn last c D1 D2 N pid s) := by
  obtain ⟨b, hpr, hat, hl⟩ := look_yes h hw hn
  obtain ⟨hBb, parent, stk, links, nn, k1, k2, k3⟩ := hpr
  obtain ⟨n, _, hl2⟩ := h.lookS (s := s) (by unfold maxLen; omega)
  rw [ht] at hl2
  have hkey := keyS_of (s := s) (by unfold maxLen; omega)
  have c0 : w.cell? ⟨T, 0, none⟩ = some (.map (some bp)) := h.tab.cell 0
  have c1 : w.cell? ⟨T, 1, none⟩ = some (.map (some bn)) := h.tab.cell 1
  have HM := Lib.hid (may_any s w hs hL)
  have hz0 : N pid = ⟨#[]⟩ := ByteArray.ext (Array.eq_empty_of_size_eq_zero hz)
  rw [hz0] at k1
  have HK := Lib.hid k1
  have HT := Lib.hid h
  have hTb : T ≠ b := h.tab.ne_ k1 (by decide)
  obtain ⟨es, cl, hmap⟩ := own_map_heap h.m2
  have hbn : bn ≠ b := fun e => blk_ne_map k1 hmap e.symm
  rw [hm] at HM
  have hsz := mayB_size hm
  clear h hL k1 k2 k3 hz0 hmap
  go_enter Tryd.func12, Tryd.ntmps12
  go_wp2_with (first
    | (go_at_call 20; go_must (refine HM.out.mono ?_); rintro e w1 ⟨rfl, hw1⟩; have hk1 := HK.out.below hw1 HK.out.lt; have ht1 := HT.out.below hw1 (Nat.le_refl _); have d4 := hk1.cell 4; have f4 := hk1.frozen 4; have t1 := (ht1.tab.far (p := ⟨b, 4, none⟩) hTb (.string s)).cell 1; simp only [List.getElem?_toArray, List.getElem?_cons_succ, List.getElem?_cons_zero] at d4 t1; have HK1 := Lib.hid hk1; have HT1 := Lib.hid ht1; clear hk1 ht1)
    | (at_mapUpdate; refine wpList_mapUpdate_own _ rfl _ _ _ 65 rfl 9 3 law9 Tryd.underlying65 (plainElem Tryd.prog 3) bn c D2 rfl (HT1.out.m2.setCell hbn _) hc _ _ _ rfl rfl hkey _ [] (plainElem_int Tryd.underlying3 hw) ?_; intro w2 hown2 hgrow2))
  go_ret
  have hb1 : Below B w w1 := hw1.mono hB
  have hs1 : B ≤ w1.heap.size := Nat.le_trans hB hw1.size
  have lo := HT1.out.lo
  refine ⟨rfl, HT1.out.named hn hat hz hsz.1 hsz.2 ht hown2 hgrow2, ?_⟩
  exact hb1.trans (((Below.refl B w1).setCell (p := ⟨b, 4, none⟩) hBb _).trans (below_of_grown hgrow2 lo.2.2 (by simpa [World.setCell] using hs1)))
end
end Go.Proofs.YtkiccfdfbmiooaaDoor
