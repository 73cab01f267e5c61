/-
  proc.Copy: a process whose stack is one frame, in new memory.
-/
import Derived.Test.YtkiccfdfbmiooaaDoorFm
namespace Go.Proofs.YtkiccfdfbmiooaaDoor
open Go Go.RowKit
theorem size46 : (Tryd.prog.info? 46).map (·.size) = some 9 := by kernel_rfl
theorem Stk.drew {w : World} {B : Nat} {v : Value} (h : Stk w B v) : Stk w.drew B v := h
theorem Stk.one {w : World} {B : Nat} {v : Value} (h : Stk w B v) : v.oneCell' = true := by
  obtain ⟨g, c, rfl, _⟩ := h.form
  rfl

def CopyPost (w : World) (v0 v1 v2 v3 v4 v5 v6 v7 v8 : Value) (e : Ending) (w' : World) : Prop :=
  ∃ u2 u3 u7 u8, e = .returned (.agg #[v0, v1, u2, u3, v4, v5, v6, u7, u8]) ∧ Stk w' w.heap.size u2 ∧ SlOwn w' w.heap.size 59 6 80 u3 (slen v3) ∧ SlOwn w' w.heap.size 3 1 8 u7 (slen v7) ∧ SlOwn w' w.heap.size 83 2 16 u8 (slen v8) ∧ Below w.heap.size w w'

set_option maxRecDepth 100000 in
set_option maxHeartbeats 1600000 in
theorem copy_any (v0 v1 v2 v3 v4 v5 v6 v7 v8 : Value) (w : World) {B : Nat} (h2 : Stk w B v2) (h3 : SlOK w w.heap.size 6 80 v3) (h7 : SlOK w w.heap.size 1 8 v7) (h8 : SlOK w w.heap.size 2 16 v8)
    (hone : (#[v0, v1, v2, v3, v4, v5, v6, v7, v8] : Array Value).all (·.oneCell') = true) : Calls Tryd.prog 19 #[.agg #[v0, v1, v2, v3, v4, v5, v6, v7, v8]] w (CopyPost w v0 v1 v2 v3 v4 v5 v6 v7 v8) := by
  go_enter Tryd.func19, Tryd.ntmps19
  go_wp2_with fail
  refine wp_new2 _ _ _ _ _ ?_
  obtain ⟨g, hg⟩ : ∃ g, w.heap.size = g := ⟨_, rfl⟩
  rw [hg] at h3 h7 h8 ⊢
  have h2l : w.heap.size ≤ g := by omega
  have HG := Lib.hid hg
  clear hg
  intro W Z hZ hB0 hsz hb1 hb2
  replace hZ : Z.size = 9 := hZ
  have hle : g + 2 ≤ W.heap.size := by omega
  clear hsz
  have HO := Lib.hid hone
  clear hone
  refine wp_region_K (fun w' => w'.cell? ⟨g, 2, none⟩ = some v2 ∧ w'.cell? ⟨g, 3, none⟩ = some v3 ∧ w'.cell? ⟨g, 7, none⟩ = some v7 ∧ w'.cell? ⟨g, 8, none⟩ = some v8) 13 (by kernel_rfl) ⟨hb1.cell 2, hb1.cell 3, hb1.cell 7, hb1.cell 8⟩ (fun hS => ?_)
  refine wpAnyK_take (i := 0) (dst := some 3) (v := ?_) rfl rfl (by kernel_rfl) (by kernel_rfl) (fun _ _ _ h => h) (Or.inl ⟨by rfl, ?_⟩) (by assumption) ?_
  rotate_left
  · (intro wS hS; (try dsimp only at hS); go_simp; try rfl)
  try simp only [Act.put, List.setIfInBounds_toArray, List.set_cons_zero, List.set_cons_succ]
  refine wpAnyK_take (i := 1) (dst := some 4) (v := ?_) rfl rfl (by kernel_rfl) (by kernel_rfl) (fun _ _ _ h => h) (Or.inl ⟨by rfl, ?_⟩) (by assumption) ?_
  rotate_left
  · (intro wS hS; (try dsimp only at hS); go_simp; try rfl)
  try simp only [Act.put, List.setIfInBounds_toArray, List.set_cons_zero, List.set_cons_succ]
  refine wpAnyK_take (i := 3) (dst := some 6) (v := ?_) rfl rfl (by kernel_rfl) (by kernel_rfl) (fun _ _ _ h => h) (Or.inl ⟨by rfl, ?_⟩) (by assumption) ?_
  rotate_left
  · (intro wS hS; (try dsimp only at hS); go_simp; try rfl)
  try simp only [Act.put, List.setIfInBounds_toArray, List.set_cons_zero, List.set_cons_succ]
  refine wpAnyK_take (i := 4) (dst := some 7) (v := ?_) rfl rfl (by kernel_rfl) (by kernel_rfl) (fun _ _ _ h => h) (Or.inl ⟨by rfl, ?_⟩) (by assumption) ?_
  rotate_left
  · (intro wS hS; (try dsimp only at hS); go_simp; try rfl)
  try simp only [Act.put, List.setIfInBounds_toArray, List.set_cons_zero, List.set_cons_succ]
  refine wpAnyK_take (i := 6) (dst := some 9) (v := ?_) rfl rfl (by kernel_rfl) (by kernel_rfl) (fun _ _ _ h => h) (Or.inl ⟨by rfl, ?_⟩) (by assumption) ?_
  rotate_left
  · (intro wS hS; (try dsimp only at hS); go_simp; try rfl)
  try simp only [Act.put, List.setIfInBounds_toArray, List.set_cons_zero, List.set_cons_succ]
  refine wpAnyK_take (i := 7) (dst := some 10) (v := ?_) rfl rfl (by kernel_rfl) (by kernel_rfl) (fun _ _ _ h => h) (Or.inl ⟨by rfl, ?_⟩) (by assumption) ?_
  rotate_left
  · (intro wS hS; (try dsimp only at hS); go_simp; try rfl)
  try simp only [Act.put, List.setIfInBounds_toArray, List.set_cons_zero, List.set_cons_succ]
  refine wpAnyK_take (i := 9) (dst := some 12) (v := ?_) rfl rfl (by kernel_rfl) (by kernel_rfl) (fun _ _ _ h => h) (Or.inl ⟨by rfl, ?_⟩) (by assumption) ?_
  rotate_left
  · (intro wS hS; (try dsimp only at hS); go_simp; try rfl)
  try simp only [Act.put, List.setIfInBounds_toArray, List.set_cons_zero, List.set_cons_succ]
  refine wpAnyK_take (i := 10) (dst := some 13) (v := ?_) rfl rfl (by kernel_rfl) (by kernel_rfl) (fun _ _ _ h => h) (Or.inl ⟨by rfl, ?_⟩) (by assumption) ?_
  rotate_left
  · (intro wS hS; (try dsimp only at hS); go_simp; try rfl)
  try simp only [Act.put, List.setIfInBounds_toArray, List.set_cons_zero, List.set_cons_succ]
  refine wpAnyK_one (i := 2) (by kernel_rfl) rfl rfl (fun K hK => ?_)
  go_simp
  refine (frames_stk v2 _ ((h2.below hB0 (by omega)).drew)).mono ?_
  rintro e w1 ⟨u2, rfl, hs2, hw1⟩
  obtain ⟨g2, C2, rfl, hg2, hl2⟩ := hs2.form
  replace hs2 := hs2.mono (B' := g) (by (try simp); omega)
  replace hb1 := hb1.drew.below hw1 (by (try simp); omega)
  replace hb2 := hb2.drew.below hw1 (by (try simp); omega)
  replace hB0 := hB0.drew.trans (hw1.mono (by (try simp); omega))
  replace hle : g + 2 ≤ w1.heap.size := Nat.le_trans hle hw1.size
  clear hw1
  replace hS := (⟨hb1.cell 2, hb1.cell 3, hb1.cell 7, hb1.cell 8⟩ : _ ∧ _ ∧ _ ∧ _)
  refine hK _ _ hS ?_
  clear hK K
  try simp only [Act.put, List.setIfInBounds_toArray, List.set_cons_zero, List.set_cons_succ]
  refine wpAnyK_take (i := 12) (dst := some 15) (v := ?_) rfl rfl (by kernel_rfl) (by kernel_rfl) (fun _ _ _ h => h) (Or.inl ⟨by rfl, ?_⟩) (by assumption) ?_
  rotate_left
  · (intro wS hS; (try dsimp only at hS); go_simp; try rfl)
  try simp only [Act.put, List.setIfInBounds_toArray, List.set_cons_zero, List.set_cons_succ]
  refine wpAnyK_one (i := 5) (by kernel_rfl) rfl rfl (fun K hK => ?_)
  go_simp
  refine (clone26 v3 _ (h3.at_ hB0 (by (try simp); omega))).mono ?_
  rintro e w2 ⟨u3, rfl, hs3, hw2⟩
  obtain ⟨A3, C3, rfl⟩ := hs3.form
  replace hs3 := hs3.mono (base' := g) (by (try simp); omega)
  replace hs2 := hs2.below hw2 (Nat.le_refl _)
  replace hb1 := hb1.below hw2 (by (try simp); omega)
  replace hb2 := hb2.below hw2 (by (try simp); omega)
  replace hB0 := hB0.trans (hw2.mono (by (try simp); omega))
  replace hle : g + 2 ≤ w2.heap.size := Nat.le_trans hle hw2.size
  clear hw2
  replace hS := (⟨hb1.cell 2, hb1.cell 3, hb1.cell 7, hb1.cell 8⟩ : _ ∧ _ ∧ _ ∧ _)
  refine hK _ _ hS ?_
  clear hK K
  try simp only [Act.put, List.setIfInBounds_toArray, List.set_cons_zero, List.set_cons_succ]
  refine wpAnyK_one (i := 8) (by kernel_rfl) rfl rfl (fun K hK => ?_)
  go_simp
  refine (clone27 v7 _ (h7.at_ hB0 (by (try simp); omega))).mono ?_
  rintro e w3 ⟨u7, rfl, hs7, hw3⟩
  obtain ⟨A7, C7, rfl⟩ := hs7.form
  replace hs7 := hs7.mono (base' := g) (by (try simp); omega)
  replace hs2 := hs2.below hw3 (Nat.le_refl _)
  replace hs3 := hs3.below hw3 (Nat.le_refl _)
  replace hb1 := hb1.below hw3 (by (try simp); omega)
  replace hb2 := hb2.below hw3 (by (try simp); omega)
  replace hB0 := hB0.trans (hw3.mono (by (try simp); omega))
  replace hle : g + 2 ≤ w3.heap.size := Nat.le_trans hle hw3.size
  clear hw3
  replace hS := (⟨hb1.cell 2, hb1.cell 3, hb1.cell 7, hb1.cell 8⟩ : _ ∧ _ ∧ _ ∧ _)
  refine hK _ _ hS ?_
  clear hK K
  try simp only [Act.put, List.setIfInBounds_toArray, List.set_cons_zero, List.set_cons_succ]
  refine wpAnyK_one (i := 11) (by kernel_rfl) rfl rfl (fun K hK => ?_)
  go_simp
  refine (clone28 v8 _ (h8.at_ hB0 (by (try simp); omega))).mono ?_
  rintro e w4 ⟨u8, rfl, hs8, hw4⟩
  obtain ⟨A8, C8, rfl⟩ := hs8.form
  replace hs8 := hs8.mono (base' := g) (by (try simp); omega)
  replace hs2 := hs2.below hw4 (Nat.le_refl _)
  replace hs3 := hs3.below hw4 (Nat.le_refl _)
  replace hs7 := hs7.below hw4 (Nat.le_refl _)
  replace hb1 := hb1.below hw4 (by (try simp); omega)
  replace hb2 := hb2.below hw4 (by (try simp); omega)
  replace hB0 := hB0.trans (hw4.mono (by (try simp); omega))
  replace hle : g + 2 ≤ w4.heap.size := Nat.le_trans hle hw4.size
  clear hw4
  replace hS := (⟨hb1.cell 2, hb1.cell 3, hb1.cell 7, hb1.cell 8⟩ : _ ∧ _ ∧ _ ∧ _)
  refine hK _ _ hS ?_
  clear hK K
  try simp only [Act.put, List.setIfInBounds_toArray, List.set_cons_zero, List.set_cons_succ]
  refine wpAnyK_tail (n := 13) rfl (by kernel_rfl) (by kernel_rfl) ?_
  simp only [List.drop_succ_cons, List.drop_zero]
  have q2 := hS.1; have q3 := hS.2.1; have q7 := hS.2.2.1; have q8 := hS.2.2.2; clear hS
  have f2 := hb1.frozen 2; have f3 := hb1.frozen 3; have f7 := hb1.frozen 7; have f8 := hb1.frozen 8
  have b1 := hb1.set_ 2 (.slice (some ⟨g2, 0, none⟩) 1 C2)
  have b2 := b1.set_ 3 (.slice A3 (slen v3) C3)
  have b3 := b2.set_ 7 (.slice A7 (slen v7) C7)
  have b4 : Blk ((((w4.setCell ⟨g, 2, none⟩ (.slice (some ⟨g2, 0, none⟩) 1 C2)).setCell ⟨g, 3, none⟩ (.slice A3 (slen v3) C3)).setCell ⟨g, 7, none⟩ (.slice A7 (slen v7) C7)).setCell ⟨g, 8, none⟩ (.slice A8 (slen v8) C8)) g 46 #[v0, v1, .slice (some ⟨g2, 0, none⟩) 1 C2, .slice A3 (slen v3) C3, v4, v5, v6, .slice A7 (slen v7) C7, .slice A8 (slen v8) C8] := b3.set_ 8 (.slice A8 (slen v8) C8)
  have c2 := ((((hb2.far (p := ⟨g, 2, none⟩) (by simp) (.slice (some ⟨g2, 0, none⟩) 1 C2)).far (p := ⟨g, 3, none⟩) (by simp) (.slice A3 (slen v3) C3)).far (p := ⟨g, 7, none⟩) (by simp) (.slice A7 (slen v7) C7)).far (p := ⟨g, 8, none⟩) (by simp) (.slice A8 (slen v8) C8))
  have B3 := ((((hB0.setCell (p := ⟨g, 2, none⟩) (Nat.le_refl _) (.slice (some ⟨g2, 0, none⟩) 1 C2)).setCell (p := ⟨g, 3, none⟩) (Nat.le_refl _) (.slice A3 (slen v3) C3)).setCell (p := ⟨g, 7, none⟩) (Nat.le_refl _) (.slice A7 (slen v7) C7)).setCell (p := ⟨g, 8, none⟩) (Nat.le_refl _) (.slice A8 (slen v8) C8))
  have hone' : (#[v0, v1, .slice (some ⟨g2, 0, none⟩) 1 C2, .slice A3 (slen v3) C3, v4, v5, v6, .slice A7 (slen v7) C7, .slice A8 (slen v8) C8] : Array Value).all (·.oneCell') = true := by
    have hone := HO.out
    simp only [List.all_toArray, List.all_cons, List.all_nil, Bool.and_eq_true, Bool.and_true] at hone ⊢
    simp only [hone, oneCell_slice, and_self]
  have hle3 : g + 2 ≤ ((((w4.setCell ⟨g, 2, none⟩ (.slice (some ⟨g2, 0, none⟩) 1 C2)).setCell ⟨g, 3, none⟩ (.slice A3 (slen v3) C3)).setCell ⟨g, 7, none⟩ (.slice A7 (slen v7) C7)).setCell ⟨g, 8, none⟩ (.slice A8 (slen v8) C8)).heap.size := by simpa [World.setCell] using hle
  have HB := Lib.hid b4; have HC := Lib.hid c2; have H1 := Lib.hid hone'; have HB3 := Lib.hid B3
  clear b4 c2 hone' hb2 B3
  go_upto_region 2 with (fail)
  go_wp2_with (first
    | ((with_reducible refine wpList_load_b (ty := 46) (x := .tmp 1) g 46 #[v0, v1, .slice (some ⟨g2, 0, none⟩) 1 C2, .slice A3 (slen v3) C3, v4, v5, v6, .slice A7 (slen v7) C7, .slice A8 (slen v8) C8] _ ?_ ?_ Tryd.underlying46 ?_ ?_); rfl; exact HB.out; exact size46)
    | ((with_reducible refine wpList_store_b (ty := 46) (x := .tmp 2) (y := .tmp 19) (g + 1) 46 Z #[v0, v1, .slice (some ⟨g2, 0, none⟩) 1 C2, .slice A3 (slen v3) C3, v4, v5, v6, .slice A7 (slen v7) C7, .slice A8 (slen v8) C8] ?_ ?_ ?_ ?_ ?_ ?_ ?_); rfl; rfl; exact HC.out; exact size46; exact hZ; exact H1.out; intro w8 k8 g8 s8))
  refine bodyPost_ret (results_blk rfl _ _ (g + 1) 46 _ _ rfl k8 Tryd.underlying46 size46) rfl ?_
  have hg := HG.out
  subst hg
  exact ⟨_, _, _, _, rfl, ((((hs2.kept hb1 (by omega) (grownBy_setCell _ _ _ _)).kept b1 (by omega) (grownBy_setCell _ _ _ _)).kept b2 (by omega) (grownBy_setCell _ _ _ _)).kept b3 (by omega) (grownBy_setCell _ _ _ _)).kept HC.out (by omega) g8, ((((hs3.far hb1 (by decide) _ _).far b1 (by decide) _ _).far b2 (by decide) _ _).far b3 (by decide) _ _).kept HC.out (by decide) g8, ((((hs7.far hb1 (by decide) _ _).far b1 (by decide) _ _).far b2 (by decide) _ _).far b3 (by decide) _ _).kept HC.out (by decide) g8, ((((hs8.far hb1 (by decide) _ _).far b1 (by decide) _ _).far b2 (by decide) _ _).far b3 (by decide) _ _).kept HC.out (by decide) g8, HB3.out.trans (below_of_grown g8 (by omega) (Nat.le_trans (by omega) hle3))⟩
end Go.Proofs.YtkiccfdfbmiooaaDoor

