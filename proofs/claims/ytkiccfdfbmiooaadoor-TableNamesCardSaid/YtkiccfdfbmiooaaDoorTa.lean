/-
  (*Table).Add over a table as 'TabOK' has it.
-/
import Derived.Test.YtkiccfdfbmiooaaDoorTn
namespace Go.Proofs.YtkiccfdfbmiooaaDoor
open Go Go.RowKit
open Go.Maps (Keyed)

section
variable {w : World} {B T bp bn last c : Nat} {D1 D2 : DataW Unit} {N : Int → ByteArray}

set_option maxRecDepth 100000 in
theorem add_full (h : TabOK w B T bp bn last c D1 D2 N) {parent : Int} {cs : Array Value} (hs : cs.size = 35) (hf : 32 ≤ Maps.size D1) : Calls Tryd.prog 8 #[.pointer (some ⟨T, 0, none⟩), .int .i64 parent, .agg cs] w (Ret w (.tuple #[.int .i64 0, .int .i64 20])) := by
  obtain ⟨v0, v1, v2, v3, v4, v5, v6, v7, v8, v9, v10, v11, v12, v13, v14, v15, v16, v17, v18, v19, v20, v21, v22, v23, v24, v25, v26, v27, v28, v29, v30, v31, v32, v33, v34, rfl⟩ := cells35 cs hs
  have q1 : (32 : Int) ≤ Maps.size D1 := by omega
  have HT := Lib.hid h
  clear h
  go_enter Tryd.func8, Tryd.ntmps8
  go_upto_region 1 with (fail)
  refine wp_new1 _ _ _ ?_
  intro W hB hsz hb
  have h1 := HT.out.below hB (Nat.le_refl _)
  have c0 : W.cell? ⟨T, 0, none⟩ = some (.map (some bp)) := h1.tab.cell 0
  have hl := h1.m1.len Tryd.underlying64
  clear h1 hb
  go_wp2
  go_ret2
  exact ⟨rfl, hB⟩

theorem PrOK.mono {b : Nat} {pid : Int} {nm : ByteArray} {B' : Nat} (h : PrOK w B b pid nm) (hB : B' ≤ B) : PrOK w B' b pid nm := by
  obtain ⟨h0, parent, stk, links, n, h1, h2, h3⟩ := h
  exact ⟨by omega, parent, stk, links, n, h1, h2.mono hB, h3.mono hB⟩

def AddMid (w : World) (parent : Int) (last : Nat) (p e : Value) (wc : World) : Prop :=
  ∃ gA : Nat, p = .pointer (some ⟨gA, 0, none⟩) ∧ Below w.heap.size w wc ∧ w.heap.size ≤ gA ∧ gA < wc.heap.size ∧ ((parent < 0 ∧ e = .int .i64 2) ∨ (0 ≤ parent ∧ e = .int .i64 0 ∧ PrOK wc w.heap.size gA (last + 1) ⟨#[]⟩))
theorem NewOK.mono {pid parent : Int} {cs : Array Value} {B' : Nat} (h : NewOK w B pid parent cs) (hB : B' ≤ B) : NewOK w B' pid parent cs := by
  obtain ⟨stk, links, n, h1, h2, h3⟩ := h
  exact ⟨stk, links, n, h1, h2.mono hB, h3.mono hB⟩
theorem NewOK.below {w' : World} {pid parent : Int} {cs : Array Value} {C : Nat} (h : NewOK w B pid parent cs) (hb : Below C w w') (hC : w.heap.size ≤ C) : NewOK w' B pid parent cs := by
  obtain ⟨stk, links, n, h1, h2, h3⟩ := h
  exact ⟨stk, links, n, h1, h2.below hb hC, h3.below hb hC⟩
theorem addMid_mk {w1 w8 : World} {gA : Nat} {Z cs : Array Value} {parent r : Int} (hB : Below w.heap.size w w1) (hg : w.heap.size ≤ gA) (hZ : Blk w1 gA 46 Z) (h8 : Blk w8 gA 46 cs) (g8 : w1.grownBy w8 (some gA))
    (hr : (parent < 0 ∧ r = 2) ∨ (0 ≤ parent ∧ r = 0 ∧ NewOK w1 w.heap.size (last + 1) parent cs)) : AddMid w parent last (.pointer (some ⟨gA, 0, none⟩)) (.int .i64 r) w8 := by
  refine ⟨gA, rfl, hB.trans (below_of_grown g8 hg hB.size), hg, h8.lt, ?_⟩
  rcases hr with ⟨h1, rfl⟩ | ⟨h1, rfl, stk, links, n, rfl, k2, k3⟩
  · exact .inl ⟨h1, rfl⟩
  · exact .inr ⟨h1, rfl, hg, parent, stk, links, n, h8, k2.kept hZ (by omega) g8, k3.kept hZ (by decide) g8⟩
theorem wp_store_blk {P : Program} {o : Oper} {a : Act} {w : World} {K : Act → World → Prop} {Q : Exit → Act → World → Prop} (ty : TypeId) (x y : Operand) (ho : o.op = .store ty x y)
    (g : Nat) (t : TypeId) (cs cs' : Array Value) (hx : a.eval x = .pointer (some ⟨g, 0, none⟩)) (hy : a.eval y = .agg cs') (hb : Blk w g t cs)
    (hi : (P.info? ty).map (·.size) = some cs'.size) (hsz : cs.size = cs'.size) (h1 : cs'.all (·.oneCell') = true)
    (h : ∀ w' : World, Blk w' g t cs' → w.grownBy w' (some g) → w'.heap.size = w.heap.size → K (a.put o.dst undef) w') : o.wp P a w K Q := by
  unfold Oper.wp execOp
  simp only [ho, hx, hy, Instr.storeAt, Instr.sureAddr, Sem.run_bind, Sem.run_pure, Result.andThen_ok, run_storeVar_row w g t ty cs cs' hb hi hsz h1]
  exact h (w.setRow g cs') (setRow_heap w g cs cs' t (0, 0) hb) ⟨rfl, rfl, rfl, by simp, fun k _ hne => setRow_other w g k cs' (fun e => hne (by rw [e]))⟩ (by simp)
abbrev Z9 : Array Value := #[.int .i64 0, .int .i64 0, .slice none 0 0, .slice none 0 0, .string ⟨#[]⟩, .bool false, .bool false, .slice none 0 0, .slice none 0 0]
def AddPost (w : World) (B T bp bn last c : Nat) (D1 D2 : DataW Unit) (N : Int → ByteArray) (parent : Int) (e : Ending) (w' : World) : Prop :=
  (parent < 0 ∧ Ret w (.tuple #[.int .i64 0, .int .i64 2]) e w') ∨
  (0 ≤ parent ∧ ∃ b : Nat, e = .returned (.tuple #[.int .i64 (last + 1), .int .i64 0]) ∧ TabOK w' B T bp bn (last + 1) c (D1.put (keyI (last + 1)) (.ptr (.lit (.int .i64 b)))) D2 (fun p => if p = (last : Int) + 1 then ⟨#[]⟩ else N p) ∧ Below B w w')
theorem TabOK.fresh (h : TabOK w B T bp bn last c D1 D2 N) {g : Nat} (hg : w.heap.size ≤ g) (pid : Int) (b' : Nat) (hp : Maps.has D1 (keyI pid) = true) (hat : D1.atKey (keyI pid) .nil = .ptr (.lit (.int .i64 b'))) : b' ≠ g := by
  obtain ⟨_, _, b, ha, _, _, _, _, _, k, _⟩ := h.ps pid hp
  rw [hat] at ha
  have hbb : b' = b := by injection ha with e; injection e with e; injection e with _ e; omega
  have := k.lt
  omega
set_option maxRecDepth 100000 in
set_option maxHeartbeats 1600000 in
theorem add_any (h : TabOK w B T bp bn last c D1 D2 N) (hB : B ≤ w.heap.size) (hl : last ≤ 1000000) {parent : Int} {cs : Array Value} (hf : FrOK w w.heap.size cs) (hsz : Maps.size D1 < 32) :
    Calls Tryd.prog 8 #[.pointer (some ⟨T, 0, none⟩), .int .i64 parent, .agg cs] w (AddPost w B T bp bn last c D1 D2 N parent) := by
  obtain ⟨v0, v1, v2, v3, v4, v5, v6, v7, v8, v9, v10, v11, v12, v13, v14, v15, v16, v17, v18, v19, v20, v21, v22, v23, v24, v25, v26, v27, v28, v29, v30, v31, v32, v33, v34, rfl⟩ := cells35 cs hf.1
  have q1 : ¬ (32 : Int) ≤ Maps.size D1 := by omega
  have HT := Lib.hid h
  have HF := Lib.hid hf
  clear h hf
  go_enter Tryd.func8, Tryd.ntmps8
  go_upto_region 1 with (fail)
  refine wp_new1 _ _ _ ?_
  intro W hB0 hsz0 hb
  have h1 := HT.out.below hB0 (Nat.le_refl _)
  have c0 : W.cell? ⟨T, 0, none⟩ = some (.map (some bp)) := h1.tab.cell 0
  have hl1 := h1.m1.len Tryd.underlying64
  have H1 := Lib.hid h1
  have HB := Lib.hid hb
  clear h1 hb
  go_upto_region 5 with (fail)
  go_cut [8, 9] (fun p e wc => AddMid w parent last p e wc)
  case rest =>
    obtain ⟨gA, rfl, hBc, hgA, hlt, hor⟩ := hcut
    rcases hor with ⟨hneg, rfl⟩ | ⟨hpos, rfl, hpr⟩
    · go_wp2_with fail
      go_ret2
      exact .inl ⟨hneg, rfl, hBc⟩
    · have ht := HT.out.below hBc (Nat.le_refl _)
      have hwr : IntKind.i64.wrap ((last : Int) + 1) = last + 1 := IntWalk.i64_in _ (by omega)
      have hwf : (Lit.int .i64 ((last : Int) + 1)).wf = true := WalkArith.wf_i64 (by omega)
      have b1 : Blk (wc.setCell ⟨T, 2, none⟩ (.int .i64 (last + 1))) T 67 #[.map (some bp), .map (some bn), .int .i64 (last + 1)] := ht.tab.set_ 2 (.int .i64 (last + 1))
      have c2 : wc.cell? ⟨T, 2, none⟩ = some (.int .i64 last) := ht.tab.cell 2
      have f2 := ht.tab.frozen 2
      obtain ⟨es, cl, hmap⟩ := own_map_heap ht.m1
      have hne : bp ≠ T := fun e => blk_ne_map ht.tab hmap e.symm
      have hne' : some T ≠ some bp := fun e => hne (Option.some.inj e).symm
      have lo := ht.lo
      have HTc := Lib.hid ht
      have HPR := Lib.hid hpr
      clear ht hpr hmap
      go_upto_region 9 with (fail)
      refine wp_region_K (fun w' => w'.cell? ⟨T, 0, none⟩ = some (.map (some bp)) ∧ w'.cell? ⟨T, 2, none⟩ = some (.int .i64 (last + 1))) 8 (by kernel_rfl) ⟨b1.cell 0, b1.cell 2⟩ (fun hS => ?_)
      refine wpAnyK_take (i := 0) (dst := some 41) (v := ?_) rfl rfl (by kernel_rfl) (by kernel_rfl) (fun _ _ _ h => h) (Or.inl ⟨by rfl, ?_⟩) (by assumption) ?_
      rotate_left
      · (intro wS hS; (try dsimp only at hS); go_simp; try rfl)
      try simp only [Act.put, List.setIfInBounds_toArray, List.set_cons_zero, List.set_cons_succ]
      refine wpAnyK_take (i := 1) (dst := some 42) (v := ?_) rfl rfl (by kernel_rfl) (by kernel_rfl) (fun _ _ _ h => h) (Or.inl ⟨by rfl, ?_⟩) (by assumption) ?_
      rotate_left
      · (intro wS hS; (try dsimp only at hS); go_simp; try rfl)
      try simp only [Act.put, List.setIfInBounds_toArray, List.set_cons_zero, List.set_cons_succ]
      refine wpAnyK_take (i := 2) (dst := some 43) (v := ?_) rfl rfl (by kernel_rfl) (by kernel_rfl) (fun _ _ _ h => h) (Or.inl ⟨by rfl, ?_⟩) (by assumption) ?_
      rotate_left
      · (intro wS hS; (try dsimp only at hS); go_simp; try rfl)
      try simp only [Act.put, List.setIfInBounds_toArray, List.set_cons_zero, List.set_cons_succ]
      refine wpAnyK_take (i := 3) (dst := some 44) (v := ?_) rfl rfl (by kernel_rfl) (by kernel_rfl) (fun _ _ _ h => h) (Or.inl ⟨by rfl, ?_⟩) (by assumption) ?_
      rotate_left
      · (intro wS hS; (try dsimp only at hS); go_simp; try rfl)
      try simp only [Act.put, List.setIfInBounds_toArray, List.set_cons_zero, List.set_cons_succ]
      refine wpAnyK_take (i := 4) (dst := some 45) (v := ?_) rfl rfl (by kernel_rfl) (by kernel_rfl) (fun _ _ _ h => h) (Or.inl ⟨by rfl, ?_⟩) (by assumption) ?_
      rotate_left
      · (intro wS hS; (try dsimp only at hS); go_simp; try rfl)
      try simp only [Act.put, List.setIfInBounds_toArray, List.set_cons_zero, List.set_cons_succ]
      refine wpAnyK_take (i := 5) (dst := some 46) (v := ?_) rfl rfl (by kernel_rfl) (by kernel_rfl) (fun _ _ _ h => h) (Or.inl ⟨by rfl, ?_⟩) (by assumption) ?_
      rotate_left
      · (intro wS hS; (try dsimp only at hS); go_simp; try rfl)
      try simp only [Act.put, List.setIfInBounds_toArray, List.set_cons_zero, List.set_cons_succ]
      refine wpAnyK_take (i := 6) (dst := some 47) (v := ?_) rfl rfl (by kernel_rfl) (by kernel_rfl) (fun _ _ _ h => h) (Or.inl ⟨by rfl, ?_⟩) (by assumption) ?_
      rotate_left
      · (intro wS hS; (try dsimp only at hS); go_simp; try rfl)
      try simp only [Act.put, List.setIfInBounds_toArray, List.set_cons_zero, List.set_cons_succ]
      refine wpAnyK_take (i := 7) (dst := some 48) (v := ?_) rfl rfl (by kernel_rfl) (by kernel_rfl) (fun _ _ _ h => h) (Or.inl ⟨by rfl, ?_⟩) (by assumption) ?_
      rotate_left
      · (intro wS hS; (try dsimp only at hS); go_simp; try rfl)
      try simp only [Act.put, List.setIfInBounds_toArray, List.set_cons_zero, List.set_cons_succ]
      refine wpAnyK_tail (n := 8) rfl (by kernel_rfl) (by kernel_rfl) ?_
      simp only [List.drop_succ_cons, List.drop_zero]
      clear hS
      go_wp2_with (first
        | (at_mapUpdate; refine wpList_mapUpdate_own _ rfl _ _ _ 64 rfl 3 70 law3 Tryd.underlying64 ptrElem bp last D1 rfl (HTc.out.m1.setCell hne _).drew (by unfold maxLen; omega) _ _ _ rfl rfl (keyI_of hwf) _ [] (show ptrElem (.pointer (some ⟨gA, 0, none⟩)) = some (.ptr (.lit (.int .i64 gA)), []) from rfl) ?_; intro w2 hown2 hgrow2; have e2 : w2.cell? ⟨T, 2, none⟩ = some (.int .i64 (last + 1)) := (b1.drew.grown hgrow2 hne').cell 2))
      go_ret2
      have hg2 : (wc.setCell ⟨T, 2, none⟩ (.int .i64 (last + 1))).grownBy w2 (some bp) := ⟨hgrow2.os, hgrow2.tape, hgrow2.output, hgrow2.size, hgrow2.block⟩
      refine .inr ⟨hpos, gA, rfl, HTc.out.added (HPR.out.mono hB) (HT.out.fresh hgA) hown2 hg2, ?_⟩
      have hs := Nat.le_trans hB hBc.size
      exact (hBc.mono hB).trans (((Below.refl B wc).setCell (p := ⟨T, 2, none⟩) lo.1 _).trans (below_of_grown hg2 lo.2.1 (by simpa [World.setCell] using hs)))
  case first =>
    obtain ⟨g, hg⟩ : ∃ g, w.heap.size = g := ⟨_, rfl⟩
    have ht := H1.out.tab
    have hb := HB.out
    rw [hg] at hb ⊢
    refine wp_region_K (fun w' => w'.cell? ⟨T, 2, none⟩ = some (.int .i64 last) ∧ Blk w' g 41 #[v0, v1, v2, v3, v4, v5, v6, v7, v8, v9, v10, v11, v12, v13, v14, v15, v16, v17, v18, v19, v20, v21, v22, v23, v24, v25, v26, v27, v28, v29, v30, v31, v32, v33, v34]) 13 (by kernel_rfl) ⟨ht.cell 2, hb⟩ (fun hS => ?_)
    refine wpAnyK_take (i := 0) (dst := some 21) (v := ?_) rfl rfl (by kernel_rfl) (by kernel_rfl) (fun _ _ _ h => h) (Or.inl ⟨by rfl, ?_⟩) (by assumption) ?_
    rotate_left
    · (intro wS hS; (try dsimp only at hS); go_simp; try rfl)
    try simp only [Act.put, List.setIfInBounds_toArray, List.set_cons_zero, List.set_cons_succ]
    refine wpAnyK_take (i := 1) (dst := some 22) (v := ?_) rfl rfl (by kernel_rfl) (by kernel_rfl) (fun _ _ _ h => h) (Or.inl ⟨by rfl, ?_⟩) (by assumption) ?_
    rotate_left
    · (intro wS hS; (try dsimp only at hS); go_simp; try rfl)
    try simp only [Act.put, List.setIfInBounds_toArray, List.set_cons_zero, List.set_cons_succ]
    refine wpAnyK_take (i := 2) (dst := some 23) (v := ?_) rfl rfl (by kernel_rfl) (by kernel_rfl) (fun _ _ _ h => h) (Or.inl ⟨by rfl, ?_⟩) (by assumption) ?_
    rotate_left
    · (intro wS hS; (try dsimp only at hS); go_simp; try rfl)
    try simp only [Act.put, List.setIfInBounds_toArray, List.set_cons_zero, List.set_cons_succ]
    refine wpAnyK_take (i := 3) (dst := some 24) (v := ?_) rfl rfl (by kernel_rfl) (by kernel_rfl) (fun _ _ _ h => h) (Or.inl ⟨by rfl, ?_⟩) (by assumption) ?_
    rotate_left
    · (intro wS hS; (try dsimp only at hS); go_simp; try rfl)
    try simp only [Act.put, List.setIfInBounds_toArray, List.set_cons_zero, List.set_cons_succ]
    refine wpAnyK_take (i := 4) (dst := some 25) (v := ?_) rfl rfl (by kernel_rfl) (by kernel_rfl) (fun _ _ _ h => h) (Or.inl ⟨by rfl, ?_⟩) (by assumption) ?_
    rotate_left
    · (intro wS hS; (try dsimp only at hS); go_simp; try rfl)
    try simp only [Act.put, List.setIfInBounds_toArray, List.set_cons_zero, List.set_cons_succ]
    refine wpAnyK_take (i := 5) (dst := some 26) (v := ?_) rfl rfl (by kernel_rfl) (by kernel_rfl) (fun _ _ _ h => h) (Or.inl ⟨by rfl, ?_⟩) (by assumption) ?_
    rotate_left
    · (intro wS hS; (try dsimp only at hS); go_simp; try rfl)
    try simp only [Act.put, List.setIfInBounds_toArray, List.set_cons_zero, List.set_cons_succ]
    refine wpAnyK_take (i := 6) (dst := some 27) (v := .agg #[v0, v1, v2, v3, v4, v5, v6, v7, v8, v9, v10, v11, v12, v13, v14, v15, v16, v17, v18, v19, v20, v21, v22, v23, v24, v25, v26, v27, v28, v29, v30, v31, v32, v33, v34]) rfl rfl (by kernel_rfl) (by kernel_rfl) (fun _ _ _ h => h) (yieldsIf_load_blk (by rfl) 41 (.tmp 5) rfl g rfl 41 #[v0, v1, v2, v3, v4, v5, v6, v7, v8, v9, v10, v11, v12, v13, v14, v15, v16, v17, v18, v19, v20, v21, v22, v23, v24, v25, v26, v27, v28, v29, v30, v31, v32, v33, v34] _ (fun _ h => h.2) Tryd.underlying41 size41) (by assumption) ?_
    have hwr : IntKind.i64.wrap ((last : Int) + 1) = last + 1 := IntWalk.i64_in _ (by omega)
    simp only [hwr, Act.put, List.setIfInBounds_toArray, List.set_cons_zero, List.set_cons_succ]
    refine wpAnyK_two (i := 7) (i' := 11) (by kernel_rfl) rfl rfl rfl rfl (fun K hK => ?_) (fun K hK => ?_)
    · go_simp
      refine (new_any _ _ _ _ (by omega) ((HF.out.below hB0.drew (Nat.le_refl _)).more hB0.drew.size)).mono ?_
      rintro e w1 ⟨cs9, r, rfl, hs9, ho9, hw1, hr9⟩
      replace ht := ht.drew.below hw1 ht.lt
      replace hb := hb.drew.below hw1 hb.lt
      have hb0 := hB0.drew.trans (hw1.mono hB0.size)
      replace hS := (⟨ht.cell 2, hb⟩ : _ ∧ _)
      refine hK _ _ hS ?_
      clear hK K
      try simp only [Act.put, List.setIfInBounds_toArray, List.set_cons_zero, List.set_cons_succ]
      refine wpAnyK_take (i := 8) (dst := some 20) (v := ?_) rfl rfl (by kernel_rfl) (by kernel_rfl) (fun _ _ _ h => h) (Or.inl ⟨by rfl, ?_⟩) (by assumption) ?_
      rotate_left
      · (intro wS hS; (try dsimp only at hS); go_simp; try rfl)
      try simp only [Act.put, List.setIfInBounds_toArray, List.set_cons_zero, List.set_cons_succ]
      refine wpAnyK_take (i := 9) (dst := some 29) (v := ?_) rfl rfl (by kernel_rfl) (by kernel_rfl) (fun _ _ _ h => h) (Or.inl ⟨by rfl, ?_⟩) (by assumption) ?_
      rotate_left
      · (intro wS hS; (try dsimp only at hS); go_simp; try rfl)
      try simp only [Act.put, List.setIfInBounds_toArray, List.set_cons_zero, List.set_cons_succ]
      refine wpAnyK_take (i := 10) (dst := some 30) (v := ?_) rfl rfl (by kernel_rfl) (by kernel_rfl) (fun _ _ _ h => h) (Or.inl ⟨by rfl, ?_⟩) (by assumption) ?_
      rotate_left
      · (intro wS hS; (try dsimp only at hS); go_simp; try rfl)
      try simp only [Act.put, List.setIfInBounds_toArray, List.set_cons_zero, List.set_cons_succ]
      refine wpAnyK_one (i := 11) (by kernel_rfl) rfl rfl (fun K hK => ?_)
      go_simp
      refine hK _ _ ⟨(ht.alloc _).cell 2, hb.alloc _⟩ ?_
      clear hK K hS
      try simp only [Act.put, List.setIfInBounds_toArray, List.set_cons_zero, List.set_cons_succ]
      refine wpAnyK_one (i := 12) (by kernel_rfl) rfl rfl (fun K hK => ?_)
      refine wp_store_blk 46 (.tmp 8) (.tmp 29) rfl w1.heap.size 46 Z9 cs9 rfl rfl (Blk.new w1 46 Z9) (by rw [hs9]; exact size46) hs9.symm ho9 (fun w8 k8 g8 s8 => ?_)
      refine hK _ _ ⟨((ht.alloc _).grown g8 (fun e => (ht.alloc _).ne_ (Blk.new w1 46 Z9) (by decide) (by injection e))).cell 2, (hb.alloc _).grown g8 (fun e => (hb.alloc _).ne_ (Blk.new w1 46 Z9) (by decide) (by injection e))⟩ ?_
      clear hK K
      try simp only [Act.put, List.setIfInBounds_toArray, List.set_cons_zero, List.set_cons_succ]
      refine wpAnyK_tail (n := 13) rfl (by kernel_rfl) (by kernel_rfl) ?_
      simp only [List.drop_succ_cons, List.drop_zero]
      go_wp2_with fail
      subst hg
      go_meet
      refine addMid_mk (hb0.alloc hb0.size _) hb0.size (Blk.new w1 46 Z9) k8 g8 ?_
      rcases hr9 with h | ⟨h1, h2, h3⟩
      · exact .inl h
      · exact .inr ⟨h1, h2, (h3.mono hB0.size).below ((Below.refl _ _).alloc (Nat.le_refl _) _) (Nat.le_refl _)⟩
    · go_simp
      have hz := Blk.new W 46 Z9
      replace ht := ht.alloc (.cells Z9 46)
      replace hb := hb.alloc (.cells Z9 46)
      have hb0 := (hB0.alloc hB0.size (.cells Z9 46)).drew
      replace hS := (⟨ht.cell 2, hb⟩ : _ ∧ _)
      refine hK _ _ hS ?_
      clear hK K
      try simp only [Act.put, List.setIfInBounds_toArray, List.set_cons_zero, List.set_cons_succ]
      refine wpAnyK_one (i := 7) (by kernel_rfl) rfl rfl (fun K hK => ?_)
      go_simp
      refine (new_any _ _ _ _ (by omega) ((HF.out.below hb0 (Nat.le_refl _)).more hb0.size)).mono ?_
      rintro e w1 ⟨cs9, r, rfl, hs9, ho9, hw1, hr9⟩
      replace ht := ht.drew.below hw1 ht.lt
      replace hb := hb.drew.below hw1 hb.lt
      have hz1 : Blk w1 (g + 1) 46 Z9 := by
        have := hz.drew.below hw1 hz.lt
        rwa [hsz0, hg] at this
      have hb1 := hb0.trans (hw1.mono hb0.size)
      replace hS := (⟨ht.cell 2, hb⟩ : _ ∧ _)
      refine hK _ _ hS ?_
      clear hK K
      try simp only [Act.put, List.setIfInBounds_toArray, List.set_cons_zero, List.set_cons_succ]
      refine wpAnyK_take (i := 8) (dst := some 20) (v := ?_) rfl rfl (by kernel_rfl) (by kernel_rfl) (fun _ _ _ h => h) (Or.inl ⟨by rfl, ?_⟩) (by assumption) ?_
      rotate_left
      · (intro wS hS; (try dsimp only at hS); go_simp; try rfl)
      try simp only [Act.put, List.setIfInBounds_toArray, List.set_cons_zero, List.set_cons_succ]
      refine wpAnyK_take (i := 9) (dst := some 29) (v := ?_) rfl rfl (by kernel_rfl) (by kernel_rfl) (fun _ _ _ h => h) (Or.inl ⟨by rfl, ?_⟩) (by assumption) ?_
      rotate_left
      · (intro wS hS; (try dsimp only at hS); go_simp; try rfl)
      try simp only [Act.put, List.setIfInBounds_toArray, List.set_cons_zero, List.set_cons_succ]
      refine wpAnyK_take (i := 10) (dst := some 30) (v := ?_) rfl rfl (by kernel_rfl) (by kernel_rfl) (fun _ _ _ h => h) (Or.inl ⟨by rfl, ?_⟩) (by assumption) ?_
      rotate_left
      · (intro wS hS; (try dsimp only at hS); go_simp; try rfl)
      try simp only [Act.put, List.setIfInBounds_toArray, List.set_cons_zero, List.set_cons_succ]
      refine wpAnyK_one (i := 12) (by kernel_rfl) rfl rfl (fun K hK => ?_)
      refine wp_store_blk 46 (.tmp 8) (.tmp 29) rfl (g + 1) 46 Z9 cs9 rfl rfl (hz1) (by rw [hs9]; exact size46) hs9.symm ho9 (fun w8 k8 g8 s8 => ?_)
      refine hK _ _ ⟨(ht.grown g8 (fun e => ht.ne_ (hz1) (by decide) (by injection e))).cell 2, hb.grown g8 (fun e => hb.ne_ (hz1) (by decide) (by injection e))⟩ ?_
      clear hK K
      try simp only [Act.put, List.setIfInBounds_toArray, List.set_cons_zero, List.set_cons_succ]
      refine wpAnyK_tail (n := 13) rfl (by kernel_rfl) (by kernel_rfl) ?_
      simp only [List.drop_succ_cons, List.drop_zero]
      go_wp2_with fail
      subst hg
      go_meet
      refine addMid_mk hb1 (by omega) hz1 k8 g8 ?_
      rcases hr9 with h | ⟨h1, h2, h3⟩
      · exact .inl h
      · exact .inr ⟨h1, h2, h3.mono hb0.size⟩
end
end Go.Proofs.YtkiccfdfbmiooaaDoor

