import Derived.Test.YtkiccfdfbmiooaaDoorCl
import Derived.Test.YtkiccfdfbmiooaaDoorRegK
import Derived.Deep.DeepCutAuto
import Derived.Lib.Hide
import Derived.Outline
namespace Go.Proofs.YtkiccfdfbmiooaaDoor
open Go Go.RowKit

theorem SlOK.at_ {w W : World} {g sz bytes : Nat} {v : Value} (h : SlOK w g sz bytes v) (hb : Below g w W) (hg : g ≤ W.heap.size) : SlOK W W.heap.size sz bytes v := (h.below hb (Nat.le_refl _)).more hg
theorem SlOwn.form {w : World} {base e sz bytes n : Nat} {v : Value} (h : SlOwn w base e sz bytes v n) : ∃ A c, v = .slice A n c := by
  obtain ⟨xs, h1, _⟩ := h
  rcases h1.2 with ⟨rfl, rfl⟩ | ⟨g, cap, cur, rfl, _⟩
  · exact ⟨_, _, rfl⟩
  · exact ⟨_, _, rfl⟩
theorem SlOwn.drew {w : World} {base e sz bytes n : Nat} {v : Value} (h : SlOwn w base e sz bytes v n) : SlOwn w.drew base e sz bytes v n := h
theorem SlOwn.kept {w w' : World} {base e sz bytes n g t : Nat} {v : Value} {cs : Array Value} (h : SlOwn w base e sz bytes v n) (hg : Blk w g t cs) (hne : e ≠ t) (hw : w.grownBy w' (some g)) : SlOwn w' base e sz bytes v n := by
  obtain ⟨xs, h1, h2, h3⟩ := h
  exact ⟨xs, h1.kept hw (.inr (own_blk_ne h1 hg hne)), h2, h3⟩
theorem SlOwn.far {w : World} {base e sz bytes n g t : Nat} {v : Value} {cs : Array Value} (h : SlOwn w base e sz bytes v n) (hg : Blk w g t cs) (hne : e ≠ t) (i : Nat) (u : Value) : SlOwn (w.setCell ⟨g, i, none⟩ u) base e sz bytes v n :=
  h.kept hg hne (grownBy_setCell w g i u)
theorem new2_parts (w : World) (A Z : Array Value) (t u : TypeId) : Below w.heap.size w ((w.alloc (.cells A t)).alloc (.cells Z u)) ∧ ((w.alloc (.cells A t)).alloc (.cells Z u)).heap.size = w.heap.size + 2 ∧
    Blk ((w.alloc (.cells A t)).alloc (.cells Z u)) w.heap.size t A ∧ Blk ((w.alloc (.cells A t)).alloc (.cells Z u)) (w.heap.size + 1) u Z :=
  ⟨((Below.refl _ _).alloc (Nat.le_refl _) _).alloc (by simp) _, by simp, (Blk.new w t A).alloc _, by simpa using Blk.new (w.alloc (.cells A t)) u Z⟩
theorem wp_new2 {P : Program} {c : Code} {Q : Exit → Act → World → Prop} {a : Act} (w : World) (A Z : Array Value) (t u : TypeId)
    (h : ∀ (W : World) (Z' : Array Value), Z'.size = Z.size → Below w.heap.size w W → W.heap.size = w.heap.size + 2 → Blk W w.heap.size t A → Blk W (w.heap.size + 1) u Z' → Code.wp P c Q a W) : Code.wp P c Q a ((w.alloc (.cells A t)).alloc (.cells Z u)) :=
  h _ Z rfl (new2_parts w A Z t u).1 (new2_parts w A Z t u).2.1 (new2_parts w A Z t u).2.2.1 (new2_parts w A Z t u).2.2.2

theorem size41 : (Tryd.prog.info? 41).map (·.size) = some 35 := by kernel_rfl
theorem below_of_grown {w w' : World} {g B : Nat} (h : w.grownBy w' (some g)) (hg : B ≤ g) (hB : B ≤ w.heap.size) : Below B w w' :=
  ⟨h.os, h.tape, h.output, h.size, fun k hk => h.block k (by omega) (fun e => by injection e; omega)⟩
theorem oneCell_slice (A : Option Addr) (n c : Nat) : (Value.slice A n c).oneCell' = true := rfl
def Mid1 (g : Nat) (w : World) (v0 v1 v2 v3 v4 v5 v6 v7 v8 v9 v10 v11 v12 v13 v14 v15 v16 v17 v18 v19 v20 v21 v22 v23 v24 v25 v26 v27 v28 v29 v30 v31 v32 v33 v34 : Value) (wc : World) : Prop :=
  ∃ u3 u4 u5 u6 Z, Below g w wc ∧ g + 2 ≤ wc.heap.size ∧ Blk wc g 41 #[v0, v1, v2, u3, u4, u5, u6, v7, v8, v9, v10, v11, v12, v13, v14, v15, v16, v17, v18, v19, v20, v21, v22, v23, v24, v25, v26, v27, v28, v29, v30, v31, v32, v33, v34] ∧ Blk wc (g + 1) 41 Z ∧ Z.size = 35 ∧
    SlOwn wc g 32 5 72 u3 (slen v3) ∧ SlOwn wc g 4 1 1 u4 (slen v4) ∧ SlOwn wc g 32 5 72 u5 (slen v5) ∧ SlOwn wc g 108 2 16 u6 (slen v6)

set_option maxRecDepth 100000 in
set_option maxHeartbeats 1600000 in
theorem own_any (v0 v1 v2 v3 v4 v5 v6 v7 v8 v9 v10 v11 v12 v13 v14 v15 v16 v17 v18 v19 v20 v21 v22 v23 v24 v25 v26 v27 v28 v29 v30 v31 v32 v33 v34 : Value) (w : World)
    (h3 : SlOK w w.heap.size 5 72 v3) (h4 : SlOK w w.heap.size 1 1 v4) (h5 : SlOK w w.heap.size 5 72 v5) (h6 : SlOK w w.heap.size 2 16 v6)
    (h28 : SlOK w w.heap.size 13 176 v28) (h33 : SlOK w w.heap.size 1 8 v33) (h34 : SlOK w w.heap.size 1 8 v34) (hone : (#[v0, v1, v2, v3, v4, v5, v6, v7, v8, v9, v10, v11, v12, v13, v14, v15, v16, v17, v18, v19, v20, v21, v22, v23, v24, v25, v26, v27, v28, v29, v30, v31, v32, v33, v34] : Array Value).all (·.oneCell') = true) :
    Calls Tryd.prog 42 #[.agg #[v0, v1, v2, v3, v4, v5, v6, v7, v8, v9, v10, v11, v12, v13, v14, v15, v16, v17, v18, v19, v20, v21, v22, v23, v24, v25, v26, v27, v28, v29, v30, v31, v32, v33, v34]] w fun e w' =>
      ∃ u3 u4 u5 u6 u28 u33 u34, e = .returned (.agg #[v0, v1, v2, u3, u4, u5, u6, v7, v8, v9, v10, v11, v12, v13, v14, v15, v16, v17, v18, v19, v20, v21, v22, v23, v24, v25, v26, v27, u28, v29, v30, v31, v32, u33, u34]) ∧
        SlOwn w' w.heap.size 32 5 72 u3 (slen v3) ∧ SlOwn w' w.heap.size 4 1 1 u4 (slen v4) ∧ SlOwn w' w.heap.size 32 5 72 u5 (slen v5) ∧ SlOwn w' w.heap.size 108 2 16 u6 (slen v6) ∧
        SlOwn w' w.heap.size 114 13 176 u28 (slen v28) ∧ SlOwn w' w.heap.size 3 1 8 u33 (slen v33) ∧ SlOwn w' w.heap.size 3 1 8 u34 (slen v34) ∧ Below w.heap.size w w' := by
  go_enter Tryd.func42, Tryd.ntmps42
  go_wp2_with fail
  refine wp_new2 _ _ _ _ _ ?_
  obtain ⟨g, hg⟩ : ∃ g, w.heap.size = g := ⟨_, rfl⟩
  rw [hg] at h3 h4 h5 h6 h28 h33 h34 ⊢
  have HG := Lib.hid hg
  clear hg
  intro W Z hZ hB0 hsz hb1 hb2
  replace hZ : Z.size = 35 := hZ
  go_cut [] (fun wc => Mid1 g w v0 v1 v2 v3 v4 v5 v6 v7 v8 v9 v10 v11 v12 v13 v14 v15 v16 v17 v18 v19 v20 v21 v22 v23 v24 v25 v26 v27 v28 v29 v30 v31 v32 v33 v34 wc)
  case rest =>
    obtain ⟨u3, u4, u5, u6, Z', hB0, hle, hb1, hb2, hZ', hs3, hs4, hs5, hs6⟩ := hcut
    obtain ⟨A3, C3, rfl⟩ := hs3.form; obtain ⟨A4, C4, rfl⟩ := hs4.form; obtain ⟨A5, C5, rfl⟩ := hs5.form; obtain ⟨A6, C6, rfl⟩ := hs6.form
    clear h3 h4 h5 h6
    go_wp2_with fail
    refine wp_region_K (fun w' => w'.cell? ⟨g, 28, none⟩ = some v28 ∧ w'.cell? ⟨g, 33, none⟩ = some v33 ∧ w'.cell? ⟨g, 34, none⟩ = some v34) 14 (by kernel_rfl) ⟨hb1.cell 28, hb1.cell 33, hb1.cell 34⟩ (fun hS => ?_)
    refine wpAnyK_take (i := 0) (dst := some 19) (v := ?_) rfl rfl (by kernel_rfl) (by kernel_rfl) (fun _ _ _ h => h) (Or.inl ⟨by rfl, ?_⟩) (by assumption) ?_
    rotate_left
    · (intro wS hS; (try dsimp only at hS); go_simp; try rfl)
    try simp only [Act.put, List.setIfInBounds_toArray, List.set_cons_zero, List.set_cons_succ]
    refine wpAnyK_take (i := 1) (dst := some 20) (v := ?_) rfl rfl (by kernel_rfl) (by kernel_rfl) (fun _ _ _ h => h) (Or.inl ⟨by rfl, ?_⟩) (by assumption) ?_
    rotate_left
    · (intro wS hS; (try dsimp only at hS); go_simp; try rfl)
    try simp only [Act.put, List.setIfInBounds_toArray, List.set_cons_zero, List.set_cons_succ]
    refine wpAnyK_take (i := 2) (dst := some 21) (v := ?_) rfl rfl (by kernel_rfl) (by kernel_rfl) (fun _ _ _ h => h) (Or.inl ⟨by rfl, ?_⟩) (by assumption) ?_
    rotate_left
    · (intro wS hS; (try dsimp only at hS); go_simp; try rfl)
    try simp only [Act.put, List.setIfInBounds_toArray, List.set_cons_zero, List.set_cons_succ]
    refine wpAnyK_take (i := 4) (dst := some 23) (v := ?_) rfl rfl (by kernel_rfl) (by kernel_rfl) (fun _ _ _ h => h) (Or.inl ⟨by rfl, ?_⟩) (by assumption) ?_
    rotate_left
    · (intro wS hS; (try dsimp only at hS); go_simp; try rfl)
    try simp only [Act.put, List.setIfInBounds_toArray, List.set_cons_zero, List.set_cons_succ]
    refine wpAnyK_take (i := 5) (dst := some 24) (v := ?_) rfl rfl (by kernel_rfl) (by kernel_rfl) (fun _ _ _ h => h) (Or.inl ⟨by rfl, ?_⟩) (by assumption) ?_
    rotate_left
    · (intro wS hS; (try dsimp only at hS); go_simp; try rfl)
    try simp only [Act.put, List.setIfInBounds_toArray, List.set_cons_zero, List.set_cons_succ]
    refine wpAnyK_take (i := 6) (dst := some 25) (v := ?_) rfl rfl (by kernel_rfl) (by kernel_rfl) (fun _ _ _ h => h) (Or.inl ⟨by rfl, ?_⟩) (by assumption) ?_
    rotate_left
    · (intro wS hS; (try dsimp only at hS); go_simp; try rfl)
    try simp only [Act.put, List.setIfInBounds_toArray, List.set_cons_zero, List.set_cons_succ]
    refine wpAnyK_take (i := 8) (dst := some 27) (v := ?_) rfl rfl (by kernel_rfl) (by kernel_rfl) (fun _ _ _ h => h) (Or.inl ⟨by rfl, ?_⟩) (by assumption) ?_
    rotate_left
    · (intro wS hS; (try dsimp only at hS); go_simp; try rfl)
    try simp only [Act.put, List.setIfInBounds_toArray, List.set_cons_zero, List.set_cons_succ]
    refine wpAnyK_take (i := 9) (dst := some 28) (v := ?_) rfl rfl (by kernel_rfl) (by kernel_rfl) (fun _ _ _ h => h) (Or.inl ⟨by rfl, ?_⟩) (by assumption) ?_
    rotate_left
    · (intro wS hS; (try dsimp only at hS); go_simp; try rfl)
    try simp only [Act.put, List.setIfInBounds_toArray, List.set_cons_zero, List.set_cons_succ]
    refine wpAnyK_take (i := 10) (dst := some 29) (v := ?_) rfl rfl (by kernel_rfl) (by kernel_rfl) (fun _ _ _ h => h) (Or.inl ⟨by rfl, ?_⟩) (by assumption) ?_
    rotate_left
    · (intro wS hS; (try dsimp only at hS); go_simp; try rfl)
    try simp only [Act.put, List.setIfInBounds_toArray, List.set_cons_zero, List.set_cons_succ]
    refine wpAnyK_one (i := 3) (by kernel_rfl) rfl rfl (fun K hK => ?_)
    go_simp
    refine (clone49 v28 _ (h28.at_ hB0.drew (by (try simp); omega))).mono ?_
    rintro e w5 ⟨u28, rfl, hs28, hw5⟩
    obtain ⟨A28, C28, rfl⟩ := hs28.form
    replace hs3 := hs3.drew.below hw5 (Nat.le_refl _)
    replace hs4 := hs4.drew.below hw5 (Nat.le_refl _)
    replace hs5 := hs5.drew.below hw5 (Nat.le_refl _)
    replace hs6 := hs6.drew.below hw5 (Nat.le_refl _)
    replace hb1 := hb1.drew.below hw5 (by (try simp); omega)
    replace hb2 := hb2.drew.below hw5 (by (try simp); omega)
    replace hB0 := hB0.drew.trans (hw5.mono (by (try simp); omega))
    replace hs28 := hs28.mono (base' := g) (by (try simp); omega)
    replace hle : g + 2 ≤ w5.heap.size := Nat.le_trans hle hw5.size
    clear hw5
    replace hS := (⟨hb1.cell 28, hb1.cell 33, hb1.cell 34⟩ : _ ∧ _ ∧ _)
    refine hK _ _ hS ?_
    clear hK K
    try simp only [Act.put, List.setIfInBounds_toArray, List.set_cons_zero, List.set_cons_succ]
    refine wpAnyK_take (i := 12) (dst := some 31) (v := ?_) rfl rfl (by kernel_rfl) (by kernel_rfl) (fun _ _ _ h => h) (Or.inl ⟨by rfl, ?_⟩) (by assumption) ?_
    rotate_left
    · (intro wS hS; (try dsimp only at hS); go_simp; try rfl)
    try simp only [Act.put, List.setIfInBounds_toArray, List.set_cons_zero, List.set_cons_succ]
    refine wpAnyK_take (i := 13) (dst := some 32) (v := ?_) rfl rfl (by kernel_rfl) (by kernel_rfl) (fun _ _ _ h => h) (Or.inl ⟨by rfl, ?_⟩) (by assumption) ?_
    rotate_left
    · (intro wS hS; (try dsimp only at hS); go_simp; try rfl)
    try simp only [Act.put, List.setIfInBounds_toArray, List.set_cons_zero, List.set_cons_succ]
    refine wpAnyK_one (i := 7) (by kernel_rfl) rfl rfl (fun K hK => ?_)
    go_simp
    refine (clone27 v33 _ (h33.at_ hB0 (by (try simp); omega))).mono ?_
    rintro e w6 ⟨u33, rfl, hs33, hw6⟩
    obtain ⟨A33, C33, rfl⟩ := hs33.form
    replace hs3 := hs3.below hw6 (Nat.le_refl _)
    replace hs4 := hs4.below hw6 (Nat.le_refl _)
    replace hs5 := hs5.below hw6 (Nat.le_refl _)
    replace hs6 := hs6.below hw6 (Nat.le_refl _)
    replace hs28 := hs28.below hw6 (Nat.le_refl _)
    replace hb1 := hb1.below hw6 (by (try simp); omega)
    replace hb2 := hb2.below hw6 (by (try simp); omega)
    replace hB0 := hB0.trans (hw6.mono (by (try simp); omega))
    replace hs33 := hs33.mono (base' := g) (by (try simp); omega)
    replace hle : g + 2 ≤ w6.heap.size := Nat.le_trans hle hw6.size
    clear hw6
    replace hS := (⟨hb1.cell 28, hb1.cell 33, hb1.cell 34⟩ : _ ∧ _ ∧ _)
    refine hK _ _ hS ?_
    clear hK K
    try simp only [Act.put, List.setIfInBounds_toArray, List.set_cons_zero, List.set_cons_succ]
    refine wpAnyK_one (i := 11) (by kernel_rfl) rfl rfl (fun K hK => ?_)
    go_simp
    refine (clone27 v34 _ (h34.at_ hB0 (by (try simp); omega))).mono ?_
    rintro e w7 ⟨u34, rfl, hs34, hw7⟩
    obtain ⟨A34, C34, rfl⟩ := hs34.form
    replace hs3 := hs3.below hw7 (Nat.le_refl _)
    replace hs4 := hs4.below hw7 (Nat.le_refl _)
    replace hs5 := hs5.below hw7 (Nat.le_refl _)
    replace hs6 := hs6.below hw7 (Nat.le_refl _)
    replace hs28 := hs28.below hw7 (Nat.le_refl _)
    replace hs33 := hs33.below hw7 (Nat.le_refl _)
    replace hb1 := hb1.below hw7 (by (try simp); omega)
    replace hb2 := hb2.below hw7 (by (try simp); omega)
    replace hB0 := hB0.trans (hw7.mono (by (try simp); omega))
    replace hs34 := hs34.mono (base' := g) (by (try simp); omega)
    replace hle : g + 2 ≤ w7.heap.size := Nat.le_trans hle hw7.size
    clear hw7
    replace hS := (⟨hb1.cell 28, hb1.cell 33, hb1.cell 34⟩ : _ ∧ _ ∧ _)
    refine hK _ _ hS ?_
    clear hK K
    try simp only [Act.put, List.setIfInBounds_toArray, List.set_cons_zero, List.set_cons_succ]
    refine wpAnyK_tail (n := 14) rfl (by kernel_rfl) (by kernel_rfl) ?_
    have q28 := hS.1; have q33 := hS.2.1; have q34 := hS.2.2; clear hS
    have f28 := hb1.frozen 28; have f33 := hb1.frozen 33; have f34 := hb1.frozen 34
    have b1 := hb1.set_ 28 (.slice A28 (slen v28) C28)
    have b2 := b1.set_ 33 (.slice A33 (slen v33) C33)
    have b3 : Blk (((w7.setCell ⟨g, 28, none⟩ (.slice A28 (slen v28) C28)).setCell ⟨g, 33, none⟩ (.slice A33 (slen v33) C33)).setCell ⟨g, 34, none⟩ (.slice A34 (slen v34) C34)) g 41 #[v0, v1, v2, .slice A3 (slen v3) C3, .slice A4 (slen v4) C4, .slice A5 (slen v5) C5, .slice A6 (slen v6) C6, v7, v8, v9, v10, v11, v12, v13, v14, v15, v16, v17, v18, v19, v20, v21, v22, v23, v24, v25, v26, v27, .slice A28 (slen v28) C28, v29, v30, v31, v32, .slice A33 (slen v33) C33, .slice A34 (slen v34) C34] := b2.set_ 34 (.slice A34 (slen v34) C34)
    have c2 := ((hb2.far (p := ⟨g, 28, none⟩) (by simp) (.slice A28 (slen v28) C28)).far (p := ⟨g, 33, none⟩) (by simp) (.slice A33 (slen v33) C33)).far (p := ⟨g, 34, none⟩) (by simp) (.slice A34 (slen v34) C34)
    have B3 := ((hB0.setCell (p := ⟨g, 28, none⟩) (Nat.le_refl _) (.slice A28 (slen v28) C28)).setCell (p := ⟨g, 33, none⟩) (Nat.le_refl _) (.slice A33 (slen v33) C33)).setCell (p := ⟨g, 34, none⟩) (Nat.le_refl _) (.slice A34 (slen v34) C34)
    have hone' : (#[v0, v1, v2, .slice A3 (slen v3) C3, .slice A4 (slen v4) C4, .slice A5 (slen v5) C5, .slice A6 (slen v6) C6, v7, v8, v9, v10, v11, v12, v13, v14, v15, v16, v17, v18, v19, v20, v21, v22, v23, v24, v25, v26, v27, .slice A28 (slen v28) C28, v29, v30, v31, v32, .slice A33 (slen v33) C33, .slice A34 (slen v34) C34] : Array Value).all (·.oneCell') = true := by
      simp only [List.all_toArray, List.all_cons, List.all_nil, Bool.and_eq_true, Bool.and_true] at hone ⊢
      simp only [hone, oneCell_slice, and_self]
    have hle3 : g + 2 ≤ (((w7.setCell ⟨g, 28, none⟩ (.slice A28 (slen v28) C28)).setCell ⟨g, 33, none⟩ (.slice A33 (slen v33) C33)).setCell ⟨g, 34, none⟩ (.slice A34 (slen v34) C34)).heap.size := by simpa [World.setCell] using hle
    have HB := Lib.hid b3; have HC := Lib.hid c2; have H1 := Lib.hid hone'; have HB3 := Lib.hid B3
    clear b3 c2 hone' hone hb2 B3
    go_upto_region 3 with (fail)
    go_wp2_with (first
      | ((with_reducible refine wpList_load_b (ty := 41) (x := .tmp 1) g 41 #[v0, v1, v2, .slice A3 (slen v3) C3, .slice A4 (slen v4) C4, .slice A5 (slen v5) C5, .slice A6 (slen v6) C6, v7, v8, v9, v10, v11, v12, v13, v14, v15, v16, v17, v18, v19, v20, v21, v22, v23, v24, v25, v26, v27, .slice A28 (slen v28) C28, v29, v30, v31, v32, .slice A33 (slen v33) C33, .slice A34 (slen v34) C34] _ ?_ ?_ Tryd.underlying41 ?_ ?_); rfl; exact HB.out; exact size41)
      | ((with_reducible refine wpList_store_b (ty := 41) (x := .tmp 2) (y := .tmp 37) (g + 1) 41 Z' #[v0, v1, v2, .slice A3 (slen v3) C3, .slice A4 (slen v4) C4, .slice A5 (slen v5) C5, .slice A6 (slen v6) C6, v7, v8, v9, v10, v11, v12, v13, v14, v15, v16, v17, v18, v19, v20, v21, v22, v23, v24, v25, v26, v27, .slice A28 (slen v28) C28, v29, v30, v31, v32, .slice A33 (slen v33) C33, .slice A34 (slen v34) C34] ?_ ?_ ?_ ?_ ?_ ?_ ?_); rfl; rfl; exact HC.out; exact size41; exact hZ'; exact H1.out; intro w8 k8 g8 s8))
    refine bodyPost_ret (results_blk rfl _ _ (g + 1) 41 _ _ rfl k8 Tryd.underlying41 size41) rfl ?_
    have hg := HG.out
    subst hg
    refine ⟨_, _, _, _, _, _, _, rfl, (((hs3.far hb1 (by decide) _ _).far b1 (by decide) _ _).far b2 (by decide) _ _).kept HC.out (by decide) g8, (((hs4.far hb1 (by decide) _ _).far b1 (by decide) _ _).far b2 (by decide) _ _).kept HC.out (by decide) g8, (((hs5.far hb1 (by decide) _ _).far b1 (by decide) _ _).far b2 (by decide) _ _).kept HC.out (by decide) g8, (((hs6.far hb1 (by decide) _ _).far b1 (by decide) _ _).far b2 (by decide) _ _).kept HC.out (by decide) g8, (((hs28.far hb1 (by decide) _ _).far b1 (by decide) _ _).far b2 (by decide) _ _).kept HC.out (by decide) g8, (((hs33.far hb1 (by decide) _ _).far b1 (by decide) _ _).far b2 (by decide) _ _).kept HC.out (by decide) g8, (((hs34.far hb1 (by decide) _ _).far b1 (by decide) _ _).far b2 (by decide) _ _).kept HC.out (by decide) g8, HB3.out.trans (below_of_grown g8 (by omega) (Nat.le_trans (by omega) hle3))⟩
  case first =>
  clear hone
  have hle : g + 2 ≤ W.heap.size := by omega
  clear hsz
  refine wp_region_K (fun w' => w'.cell? ⟨g, 3, none⟩ = some v3 ∧ w'.cell? ⟨g, 4, none⟩ = some v4 ∧ w'.cell? ⟨g, 5, none⟩ = some v5 ∧ w'.cell? ⟨g, 6, none⟩ = some v6) 13 (by kernel_rfl) ⟨hb1.cell 3, hb1.cell 4, hb1.cell 5, hb1.cell 6⟩ (fun hS => ?_)
  refine wpAnyK_take (i := 0) (dst := some 3) (v := ?_) rfl rfl (by kernel_rfl) (by kernel_rfl) (fun _ _ _ h => h) (Or.inl ⟨by rfl, ?_⟩) (by assumption) ?_
  rotate_left
  · (intro wS hS; (try dsimp only at hS); go_simp; try rfl)
  try simp only [Act.put, List.setIfInBounds_toArray, List.set_cons_zero, List.set_cons_succ]
  refine wpAnyK_take (i := 1) (dst := some 4) (v := ?_) rfl rfl (by kernel_rfl) (by kernel_rfl) (fun _ _ _ h => h) (Or.inl ⟨by rfl, ?_⟩) (by assumption) ?_
  rotate_left
  · (intro wS hS; (try dsimp only at hS); go_simp; try rfl)
  try simp only [Act.put, List.setIfInBounds_toArray, List.set_cons_zero, List.set_cons_succ]
  refine wpAnyK_take (i := 3) (dst := some 6) (v := ?_) rfl rfl (by kernel_rfl) (by kernel_rfl) (fun _ _ _ h => h) (Or.inl ⟨by rfl, ?_⟩) (by assumption) ?_
  rotate_left
  · (intro wS hS; (try dsimp only at hS); go_simp; try rfl)
  try simp only [Act.put, List.setIfInBounds_toArray, List.set_cons_zero, List.set_cons_succ]
  refine wpAnyK_take (i := 4) (dst := some 7) (v := ?_) rfl rfl (by kernel_rfl) (by kernel_rfl) (fun _ _ _ h => h) (Or.inl ⟨by rfl, ?_⟩) (by assumption) ?_
  rotate_left
  · (intro wS hS; (try dsimp only at hS); go_simp; try rfl)
  try simp only [Act.put, List.setIfInBounds_toArray, List.set_cons_zero, List.set_cons_succ]
  refine wpAnyK_take (i := 6) (dst := some 9) (v := ?_) rfl rfl (by kernel_rfl) (by kernel_rfl) (fun _ _ _ h => h) (Or.inl ⟨by rfl, ?_⟩) (by assumption) ?_
  rotate_left
  · (intro wS hS; (try dsimp only at hS); go_simp; try rfl)
  try simp only [Act.put, List.setIfInBounds_toArray, List.set_cons_zero, List.set_cons_succ]
  refine wpAnyK_take (i := 7) (dst := some 10) (v := ?_) rfl rfl (by kernel_rfl) (by kernel_rfl) (fun _ _ _ h => h) (Or.inl ⟨by rfl, ?_⟩) (by assumption) ?_
  rotate_left
  · (intro wS hS; (try dsimp only at hS); go_simp; try rfl)
  try simp only [Act.put, List.setIfInBounds_toArray, List.set_cons_zero, List.set_cons_succ]
  refine wpAnyK_take (i := 9) (dst := some 12) (v := ?_) rfl rfl (by kernel_rfl) (by kernel_rfl) (fun _ _ _ h => h) (Or.inl ⟨by rfl, ?_⟩) (by assumption) ?_
  rotate_left
  · (intro wS hS; (try dsimp only at hS); go_simp; try rfl)
  try simp only [Act.put, List.setIfInBounds_toArray, List.set_cons_zero, List.set_cons_succ]
  refine wpAnyK_take (i := 10) (dst := some 13) (v := ?_) rfl rfl (by kernel_rfl) (by kernel_rfl) (fun _ _ _ h => h) (Or.inl ⟨by rfl, ?_⟩) (by assumption) ?_
  rotate_left
  · (intro wS hS; (try dsimp only at hS); go_simp; try rfl)
  try simp only [Act.put, List.setIfInBounds_toArray, List.set_cons_zero, List.set_cons_succ]
  refine wpAnyK_one (i := 2) (by kernel_rfl) rfl rfl (fun K hK => ?_)
  go_simp
  refine (clone46 v3 _ (h3.at_ hB0.drew (by (try simp); omega))).mono ?_
  rintro e w1 ⟨u3, rfl, hs3, hw1⟩
  obtain ⟨A3, C3, rfl⟩ := hs3.form
  replace hb1 := hb1.drew.below hw1 (by (try simp); omega)
  replace hb2 := hb2.drew.below hw1 (by (try simp); omega)
  replace hB0 := hB0.drew.trans (hw1.mono (by (try simp); omega))
  replace hs3 := hs3.mono (base' := g) (by (try simp); omega)
  replace hle : g + 2 ≤ w1.heap.size := Nat.le_trans hle hw1.size
  clear hw1
  replace hS := (⟨hb1.cell 3, hb1.cell 4, hb1.cell 5, hb1.cell 6⟩ : _ ∧ _ ∧ _ ∧ _)
  refine hK _ _ hS ?_
  clear hK K
  try simp only [Act.put, List.setIfInBounds_toArray, List.set_cons_zero, List.set_cons_succ]
  refine wpAnyK_take (i := 12) (dst := some 15) (v := ?_) rfl rfl (by kernel_rfl) (by kernel_rfl) (fun _ _ _ h => h) (Or.inl ⟨by rfl, ?_⟩) (by assumption) ?_
  rotate_left
  · (intro wS hS; (try dsimp only at hS); go_simp; try rfl)
  try simp only [Act.put, List.setIfInBounds_toArray, List.set_cons_zero, List.set_cons_succ]
  refine wpAnyK_one (i := 5) (by kernel_rfl) rfl rfl (fun K hK => ?_)
  go_simp
  refine (clone47 v4 _ (h4.at_ hB0 (by (try simp); omega))).mono ?_
  rintro e w2 ⟨u4, rfl, hs4, hw2⟩
  obtain ⟨A4, C4, rfl⟩ := hs4.form
  replace hs3 := hs3.below hw2 (Nat.le_refl _)
  replace hb1 := hb1.below hw2 (by (try simp); omega)
  replace hb2 := hb2.below hw2 (by (try simp); omega)
  replace hB0 := hB0.trans (hw2.mono (by (try simp); omega))
  replace hs4 := hs4.mono (base' := g) (by (try simp); omega)
  replace hle : g + 2 ≤ w2.heap.size := Nat.le_trans hle hw2.size
  clear hw2
  replace hS := (⟨hb1.cell 3, hb1.cell 4, hb1.cell 5, hb1.cell 6⟩ : _ ∧ _ ∧ _ ∧ _)
  refine hK _ _ hS ?_
  clear hK K
  try simp only [Act.put, List.setIfInBounds_toArray, List.set_cons_zero, List.set_cons_succ]
  refine wpAnyK_one (i := 8) (by kernel_rfl) rfl rfl (fun K hK => ?_)
  go_simp
  refine (clone46 v5 _ (h5.at_ hB0 (by (try simp); omega))).mono ?_
  rintro e w3 ⟨u5, rfl, hs5, hw3⟩
  obtain ⟨A5, C5, rfl⟩ := hs5.form
  replace hs3 := hs3.below hw3 (Nat.le_refl _)
  replace hs4 := hs4.below hw3 (Nat.le_refl _)
  replace hb1 := hb1.below hw3 (by (try simp); omega)
  replace hb2 := hb2.below hw3 (by (try simp); omega)
  replace hB0 := hB0.trans (hw3.mono (by (try simp); omega))
  replace hs5 := hs5.mono (base' := g) (by (try simp); omega)
  replace hle : g + 2 ≤ w3.heap.size := Nat.le_trans hle hw3.size
  clear hw3
  replace hS := (⟨hb1.cell 3, hb1.cell 4, hb1.cell 5, hb1.cell 6⟩ : _ ∧ _ ∧ _ ∧ _)
  refine hK _ _ hS ?_
  clear hK K
  try simp only [Act.put, List.setIfInBounds_toArray, List.set_cons_zero, List.set_cons_succ]
  refine wpAnyK_one (i := 11) (by kernel_rfl) rfl rfl (fun K hK => ?_)
  go_simp
  refine (clone48 v6 _ (h6.at_ hB0 (by (try simp); omega))).mono ?_
  rintro e w4 ⟨u6, rfl, hs6, hw4⟩
  obtain ⟨A6, C6, rfl⟩ := hs6.form
  replace hs3 := hs3.below hw4 (Nat.le_refl _)
  replace hs4 := hs4.below hw4 (Nat.le_refl _)
  replace hs5 := hs5.below hw4 (Nat.le_refl _)
  replace hb1 := hb1.below hw4 (by (try simp); omega)
  replace hb2 := hb2.below hw4 (by (try simp); omega)
  replace hB0 := hB0.trans (hw4.mono (by (try simp); omega))
  replace hs6 := hs6.mono (base' := g) (by (try simp); omega)
  replace hle : g + 2 ≤ w4.heap.size := Nat.le_trans hle hw4.size
  clear hw4
  replace hS := (⟨hb1.cell 3, hb1.cell 4, hb1.cell 5, hb1.cell 6⟩ : _ ∧ _ ∧ _ ∧ _)
  refine hK _ _ hS ?_
  clear hK K
  try simp only [Act.put, List.setIfInBounds_toArray, List.set_cons_zero, List.set_cons_succ]
  refine wpAnyK_tail (n := 13) rfl (by kernel_rfl) (by kernel_rfl) ?_
  have q3 := hS.1; have q4 := hS.2.1; have q5 := hS.2.2.1; have q6 := hS.2.2.2; clear hS
  have f3 := hb1.frozen 3; have f4 := hb1.frozen 4; have f5 := hb1.frozen 5; have f6 := hb1.frozen 6
  go_wp2_with fail
  go_meet
  have b1 := hb1.set_ 3 (.slice A3 (slen v3) C3)
  have b2 := b1.set_ 4 (.slice A4 (slen v4) C4)
  have b3 := b2.set_ 5 (.slice A5 (slen v5) C5)
  have b4 := b3.set_ 6 (.slice A6 (slen v6) C6)
  refine ⟨_, _, _, _, Z, (((hB0.setCell (p := ⟨g, 3, none⟩) (Nat.le_refl _) _).setCell (p := ⟨g, 4, none⟩) (Nat.le_refl _) _).setCell (p := ⟨g, 5, none⟩) (Nat.le_refl _) _).setCell (p := ⟨g, 6, none⟩) (Nat.le_refl _) _, by simp [World.setCell]; exact hle, b4,
    (((hb2.far (p := ⟨g, 3, none⟩) (by simp) _).far (p := ⟨g, 4, none⟩) (by simp) _).far (p := ⟨g, 5, none⟩) (by simp) _).far (p := ⟨g, 6, none⟩) (by simp) _, hZ, ?_, ?_, ?_, ?_⟩
  · exact (((hs3.far hb1 (by decide) _ _).far b1 (by decide) _ _).far b2 (by decide) _ _).far b3 (by decide) _ _
  · exact (((hs4.far hb1 (by decide) _ _).far b1 (by decide) _ _).far b2 (by decide) _ _).far b3 (by decide) _ _
  · exact (((hs5.far hb1 (by decide) _ _).far b1 (by decide) _ _).far b2 (by decide) _ _).far b3 (by decide) _ _
  · exact (((hs6.far hb1 (by decide) _ _).far b1 (by decide) _ _).far b2 (by decide) _ _).far b3 (by decide) _ _
end Go.Proofs.YtkiccfdfbmiooaaDoor

