/-
  proc.New: a process of one frame.
-/
import Derived.Test.YtkiccfdfbmiooaaDoorCp
namespace Go.Proofs.YtkiccfdfbmiooaaDoor
open Go Go.RowKit

theorem info46 : (Tryd.prog.info? 46).map (fun i => (i.zero.map (·.cells.size), i.size, i.bytes)) = some (some 9, 9, 136) := by kernel_rfl
theorem results_blk2 {P : Program} {fn : Func} {p q : Tmp} {ty : TypeId} (h : fn.results = #[.cell p ty, .tmp q]) (tmps : Array Value) (w : World) (g : Nat) (t : TypeId) (cs : Array Value) (fs : Array Field)
    (hp : tmps.getD p undef = .pointer (some ⟨g, 0, none⟩)) (hb : Blk w g t cs) (hu : P.underlying ty = some (.struct fs)) (hi : (P.info? ty).map (·.size) = some cs.size) :
    (results fn tmps).run P w = .ok (.tuple #[.agg cs, tmps.getD q undef]) w := by
  have hp' : tmps[p]?.getD undef = .pointer (some ⟨g, 0, none⟩) := by simpa using hp
  have hl := run_loadVar_row (P := P) w g t ty cs (0, 0) (.struct fs) hb hu rfl hi
  simp [results, h, hp', asAddr, hl]

theorem World.rangeAt_new (w : World) (cs : Array Value) (t : TypeId) : (w.alloc (.cells cs t)).rangeAt w.heap.size 0 cs.toList := fun j u hu => by
  rw [Nat.zero_add, (Blk.new w t cs).cell j]
  simpa using hu
theorem z9_one : (#[.int .i64 0, .int .i64 0, .slice none 0 0, .slice none 0 0, .string ⟨#[]⟩, .bool false, .bool false, .slice none 0 0, .slice none 0 0] : Array Value).all (·.oneCell') = true := by simp [Value.oneCell']
theorem Stk.alloc_ {w : World} {B : Nat} {v : Value} (h : Stk w B v) (o : Obj) : Stk (w.alloc o) B v := h.below ((Below.refl _ _).alloc (Nat.le_refl _) _) (Nat.le_refl _)
theorem links_own (w : World) (parent : Int) (A : Array Value) (B : Nat) (hB : B ≤ w.heap.size) : SlOwn ((w.alloc (.cells A 46)).alloc (.cells #[.int .i64 parent] 3)) B 3 1 8 (.slice (some ⟨w.heap.size + 1, 0, none⟩) 1 1) 1 :=
  ⟨[.int .i64 parent], ⟨rfl, .inr ⟨w.heap.size + 1, 1, #[.int .i64 parent], rfl, by omega, by simpa using heap_alloc_new (w.alloc (.cells A 46)) (.cells #[.int .i64 parent] 3), by omega, by unfold maxLen; omega, rfl, rfl⟩⟩, by simp [Value.oneCell'], by omega⟩
/-- The cells of a process that New makes. -/
def NewOK (w : World) (B : Nat) (pid parent : Int) (cs : Array Value) : Prop :=
  ∃ stk links n, cs = #[.int .i64 pid, .int .i64 parent, stk, .slice none 0 0, .string ⟨#[]⟩, .bool false, .bool false, links, .slice none 0 0] ∧ Stk w B stk ∧ SlOwn w B 3 1 8 links n
def NewPost (w : World) (pid parent : Int) (e : Ending) (w' : World) : Prop := ∃ cs, e = .returned (.tuple #[.agg cs, .int .i64 0]) ∧ NewOK w' w.heap.size pid parent cs ∧ Below w.heap.size w w'
def NewNeg (w : World) (e : Ending) (w' : World) : Prop := ∃ cs, cs.size = 9 ∧ cs.all (·.oneCell') = true ∧ e = .returned (.tuple #[.agg cs, .int .i64 2]) ∧ Below w.heap.size w w'

set_option maxRecDepth 100000 in
set_option maxHeartbeats 800000 in
theorem new_neg (pid parent : Int) (cs : Array Value) (w : World) (hp : 1 ≤ pid) (hn : parent < 0) : Calls Tryd.prog 18 #[.int .i64 pid, .int .i64 parent, .agg cs] w (NewNeg w) := by
  go_enter Tryd.func18, Tryd.ntmps18
  go_upto_region 2 with (fail)
  refine wp_new2 _ _ _ _ _ ?_
  intro W Z hZ hB0 hsz hb1 hb2
  replace hZ : Z.size = 9 := hZ
  have HB := Lib.hid hb2
  clear hb1 hb2
  go_wp2_with (first
    | ((with_reducible refine wpList_store_b (ty := 46) (x := .tmp 6) (y := .tmp 15) (w.heap.size + 1) 46 Z #[.int .i64 0, .int .i64 0, .slice none 0 0, .slice none 0 0, .string ⟨#[]⟩, .bool false, .bool false, .slice none 0 0, .slice none 0 0] ?_ ?_ ?_ ?_ ?_ ?_ ?_); rfl; rfl; exact HB.out; exact size46; exact hZ; exact z9_one; intro w8 k8 g8 s8))
  refine bodyPost_ret (results_blk2 rfl _ _ (w.heap.size + 1) 46 _ _ rfl k8 Tryd.underlying46 size46) rfl ?_
  exact ⟨_, rfl, z9_one, rfl, hB0.trans (below_of_grown g8 (by omega) (by omega))⟩


set_option maxRecDepth 100000 in
set_option maxHeartbeats 1600000 in
theorem new_link (pid parent : Int) (cs : Array Value) (w : World) (hp : 1 ≤ pid) (hpos : 0 < parent) (hne : parent ≠ pid) (h : FrOK w w.heap.size cs) : Calls Tryd.prog 18 #[.int .i64 pid, .int .i64 parent, .agg cs] w (NewPost w pid parent) := by
  obtain ⟨v0, v1, v2, v3, v4, v5, v6, v7, v8, v9, v10, v11, v12, v13, v14, v15, v16, v17, v18, v19, v20, v21, v22, v23, v24, v25, v26, v27, v28, v29, v30, v31, v32, v33, v34, rfl⟩ := cells35 cs h.1
  have q1 : (parent != pid) = true := by simpa using hne
  go_enter Tryd.func18, Tryd.ntmps18
  go_upto_region 3 with (fail)
  refine wp_new2 _ _ _ _ _ ?_
  obtain ⟨g, hg⟩ : ∃ g, w.heap.size = g := ⟨_, rfl⟩
  rw [hg] at h ⊢
  have HG := Lib.hid hg
  clear hg
  intro W Z hZ hB0 hle hb1 hb2
  replace hZ : Z.size = 9 := hZ
  replace hle : g + 2 ≤ W.heap.size := by omega
  have HB1 := Lib.hid hb1
  clear hb1
  have h' := h.below hB0 (Nat.le_refl _)
  have H := Lib.hid h'
  clear h h'
  go_wp2_with (first
    | ((with_reducible refine wpList_load_b (ty := 41) (x := .tmp 5) g 41 #[v0, v1, v2, v3, v4, v5, v6, v7, v8, v9, v10, v11, v12, v13, v14, v15, v16, v17, v18, v19, v20, v21, v22, v23, v24, v25, v26, v27, v28, v29, v30, v31, v32, v33, v34] _ ?_ ?_ Tryd.underlying41 ?_ ?_); rfl; exact HB1.out; exact size41))
  refine (frames_one W.heap.size 1 #[v0, v1, v2, v3, v4, v5, v6, v7, v8, v9, v10, v11, v12, v13, v14, v15, v16, v17, v18, v19, v20, v21, v22, v23, v24, v25, v26, v27, v28, v29, v30, v31, v32, v33, v34] _ (World.rangeAt_new W _ 41) ((H.out.below ((Below.refl _ _).alloc (Nat.le_refl _) _) (by omega)).more (by simp; omega))).mono ?_
  rintro e w1 ⟨u2, rfl, hs2, hw1⟩
  obtain ⟨g2, C2, rfl, hg2, hl2⟩ := hs2.form
  replace hs2 := hs2.mono (B' := g) (by simp; omega)
  replace hb2 := hb2.below (w' := w1) (((Below.refl _ _).alloc (Nat.le_refl _) _).trans (hw1.mono (by simp))) (by omega)
  replace hB0 : Below g w w1 := (hB0.alloc (by omega) _).trans (hw1.mono (by simp; omega))
  replace hle : g + 2 ≤ w1.heap.size := Nat.le_trans (by simp; omega) hw1.size
  have HB2 := Lib.hid hb2
  clear HB1 hb2 hw1 H hg2 hl2
  have hone : (#[.int .i64 pid, .int .i64 parent, .slice (some ⟨g2, 0, none⟩) 1 C2, .slice none 0 0, .string ⟨#[]⟩, .bool false, .bool false, .slice (some ⟨w1.heap.size + 1, 0, none⟩) 1 1, .slice none 0 0] : Array Value).all (·.oneCell') = true := by simp [Value.oneCell']
  have H1 := Lib.hid hone
  clear hone
  go_upto_region 6 with (fail)
  go_wp2_with (first
    | ((with_reducible refine wpList_store_b (ty := 46) (x := .tmp 6) (y := .tmp 32) (g + 1) 46 Z #[.int .i64 pid, .int .i64 parent, .slice (some ⟨g2, 0, none⟩) 1 C2, .slice none 0 0, .string ⟨#[]⟩, .bool false, .bool false, .slice (some ⟨w1.heap.size + 1, 0, none⟩) 1 1, .slice none 0 0] ?_ ?_ ?_ ?_ ?_ ?_ ?_); rfl; rfl; exact (HB2.out.alloc _).alloc _; exact size46; exact hZ; exact H1.out; intro w8 k8 g8 s8))
  refine bodyPost_ret (results_blk2 rfl _ _ (g + 1) 46 _ _ rfl k8 Tryd.underlying46 size46) rfl ?_
  have hg := HG.out
  subst hg
  refine ⟨_, rfl, ⟨_, _, 1, rfl, ((hs2.alloc_ _).alloc_ _).kept ((HB2.out.alloc _).alloc _) (by omega) g8, SlOwn.kept (links_own w1 parent _ _ (by omega)) ((HB2.out.alloc _).alloc _) (by decide) g8⟩, ((hB0.alloc (by omega) _).alloc (by simp; omega) _).trans (below_of_grown g8 (by omega) (by simp; omega))⟩


set_option maxRecDepth 100000 in
set_option maxHeartbeats 1600000 in
theorem new_self (pid parent : Int) (cs : Array Value) (w : World) (hp : 1 ≤ pid) (hpos : 0 < parent) (hne : parent = pid) (h : FrOK w w.heap.size cs) : Calls Tryd.prog 18 #[.int .i64 pid, .int .i64 parent, .agg cs] w (NewPost w pid parent) := by
  obtain ⟨v0, v1, v2, v3, v4, v5, v6, v7, v8, v9, v10, v11, v12, v13, v14, v15, v16, v17, v18, v19, v20, v21, v22, v23, v24, v25, v26, v27, v28, v29, v30, v31, v32, v33, v34, rfl⟩ := cells35 cs h.1
  have q1 : (parent != pid) = false := by simpa using hne
  clear hne
  go_enter Tryd.func18, Tryd.ntmps18
  go_upto_region 3 with (fail)
  refine wp_new2 _ _ _ _ _ ?_
  obtain ⟨g, hg⟩ : ∃ g, w.heap.size = g := ⟨_, rfl⟩
  rw [hg] at h ⊢
  have HG := Lib.hid hg
  clear hg
  intro W Z hZ hB0 hle hb1 hb2
  replace hZ : Z.size = 9 := hZ
  replace hle : g + 2 ≤ W.heap.size := by omega
  have HB1 := Lib.hid hb1
  clear hb1
  have h' := h.below hB0 (Nat.le_refl _)
  have H := Lib.hid h'
  clear h h'
  go_wp2_with (first
    | ((with_reducible refine wpList_load_b (ty := 41) (x := .tmp 5) g 41 #[v0, v1, v2, v3, v4, v5, v6, v7, v8, v9, v10, v11, v12, v13, v14, v15, v16, v17, v18, v19, v20, v21, v22, v23, v24, v25, v26, v27, v28, v29, v30, v31, v32, v33, v34] _ ?_ ?_ Tryd.underlying41 ?_ ?_); rfl; exact HB1.out; exact size41))
  refine (frames_one W.heap.size 1 #[v0, v1, v2, v3, v4, v5, v6, v7, v8, v9, v10, v11, v12, v13, v14, v15, v16, v17, v18, v19, v20, v21, v22, v23, v24, v25, v26, v27, v28, v29, v30, v31, v32, v33, v34] _ (World.rangeAt_new W _ 41) ((H.out.below ((Below.refl _ _).alloc (Nat.le_refl _) _) (by omega)).more (by simp; omega))).mono ?_
  rintro e w1 ⟨u2, rfl, hs2, hw1⟩
  obtain ⟨g2, C2, rfl, hg2, hl2⟩ := hs2.form
  replace hs2 := hs2.mono (B' := g) (by simp; omega)
  replace hb2 := hb2.below (w' := w1) (((Below.refl _ _).alloc (Nat.le_refl _) _).trans (hw1.mono (by simp))) (by omega)
  replace hB0 : Below g w w1 := (hB0.alloc (by omega) _).trans (hw1.mono (by simp; omega))
  replace hle : g + 2 ≤ w1.heap.size := Nat.le_trans (by simp; omega) hw1.size
  have HB2 := Lib.hid hb2
  clear HB1 hb2 hw1 H hg2 hl2
  have hone : (#[.int .i64 pid, .int .i64 parent, .slice (some ⟨g2, 0, none⟩) 1 C2, .slice none 0 0, .string ⟨#[]⟩, .bool false, .bool false, .slice none 0 0, .slice none 0 0] : Array Value).all (·.oneCell') = true := by simp [Value.oneCell']
  have H1 := Lib.hid hone
  clear hone
  go_upto_region 6 with (fail)
  go_wp2_with (first
    | ((with_reducible refine wpList_store_b (ty := 46) (x := .tmp 6) (y := .tmp 32) (g + 1) 46 Z #[.int .i64 pid, .int .i64 parent, .slice (some ⟨g2, 0, none⟩) 1 C2, .slice none 0 0, .string ⟨#[]⟩, .bool false, .bool false, .slice none 0 0, .slice none 0 0] ?_ ?_ ?_ ?_ ?_ ?_ ?_); rfl; rfl; exact HB2.out.alloc _; exact size46; exact hZ; exact H1.out; intro w8 k8 g8 s8))
  refine bodyPost_ret (results_blk2 rfl _ _ (g + 1) 46 _ _ rfl k8 Tryd.underlying46 size46) rfl ?_
  have hg := HG.out
  subst hg
  refine ⟨_, rfl, ⟨_, _, 0, rfl, (hs2.alloc_ _).kept (HB2.out.alloc _) (by omega) g8, SlOwn.nil_⟩, (hB0.alloc (by omega) _).trans (below_of_grown g8 (by omega) (by simp; omega))⟩


set_option maxRecDepth 100000 in
set_option maxHeartbeats 1600000 in
theorem new_zero (pid : Int) (cs : Array Value) (w : World) (hp : 1 ≤ pid)  (h : FrOK w w.heap.size cs) : Calls Tryd.prog 18 #[.int .i64 pid, .int .i64 0, .agg cs] w (NewPost w pid 0) := by
  obtain ⟨v0, v1, v2, v3, v4, v5, v6, v7, v8, v9, v10, v11, v12, v13, v14, v15, v16, v17, v18, v19, v20, v21, v22, v23, v24, v25, v26, v27, v28, v29, v30, v31, v32, v33, v34, rfl⟩ := cells35 cs h.1
  go_enter Tryd.func18, Tryd.ntmps18
  go_upto_region 3 with (fail)
  refine wp_new2 _ _ _ _ _ ?_
  obtain ⟨g, hg⟩ : ∃ g, w.heap.size = g := ⟨_, rfl⟩
  rw [hg] at h ⊢
  have HG := Lib.hid hg
  clear hg
  intro W Z hZ hB0 hle hb1 hb2
  replace hZ : Z.size = 9 := hZ
  replace hle : g + 2 ≤ W.heap.size := by omega
  have HB1 := Lib.hid hb1
  clear hb1
  have h' := h.below hB0 (Nat.le_refl _)
  have H := Lib.hid h'
  clear h h'
  go_wp2_with (first
    | ((with_reducible refine wpList_load_b (ty := 41) (x := .tmp 5) g 41 #[v0, v1, v2, v3, v4, v5, v6, v7, v8, v9, v10, v11, v12, v13, v14, v15, v16, v17, v18, v19, v20, v21, v22, v23, v24, v25, v26, v27, v28, v29, v30, v31, v32, v33, v34] _ ?_ ?_ Tryd.underlying41 ?_ ?_); rfl; exact HB1.out; exact size41))
  refine (frames_one W.heap.size 1 #[v0, v1, v2, v3, v4, v5, v6, v7, v8, v9, v10, v11, v12, v13, v14, v15, v16, v17, v18, v19, v20, v21, v22, v23, v24, v25, v26, v27, v28, v29, v30, v31, v32, v33, v34] _ (World.rangeAt_new W _ 41) ((H.out.below ((Below.refl _ _).alloc (Nat.le_refl _) _) (by omega)).more (by simp; omega))).mono ?_
  rintro e w1 ⟨u2, rfl, hs2, hw1⟩
  obtain ⟨g2, C2, rfl, hg2, hl2⟩ := hs2.form
  replace hs2 := hs2.mono (B' := g) (by simp; omega)
  replace hb2 := hb2.below (w' := w1) (((Below.refl _ _).alloc (Nat.le_refl _) _).trans (hw1.mono (by simp))) (by omega)
  replace hB0 : Below g w w1 := (hB0.alloc (by omega) _).trans (hw1.mono (by simp; omega))
  replace hle : g + 2 ≤ w1.heap.size := Nat.le_trans (by simp; omega) hw1.size
  have HB2 := Lib.hid hb2
  clear HB1 hb2 hw1 H hg2 hl2
  have hone : (#[.int .i64 pid, .int .i64 0, .slice (some ⟨g2, 0, none⟩) 1 C2, .slice none 0 0, .string ⟨#[]⟩, .bool false, .bool false, .slice none 0 0, .slice none 0 0] : Array Value).all (·.oneCell') = true := by simp [Value.oneCell']
  have H1 := Lib.hid hone
  clear hone
  go_upto_region 6 with (fail)
  go_wp2_with (first
    | ((with_reducible refine wpList_store_b (ty := 46) (x := .tmp 6) (y := .tmp 32) (g + 1) 46 Z #[.int .i64 pid, .int .i64 0, .slice (some ⟨g2, 0, none⟩) 1 C2, .slice none 0 0, .string ⟨#[]⟩, .bool false, .bool false, .slice none 0 0, .slice none 0 0] ?_ ?_ ?_ ?_ ?_ ?_ ?_); rfl; rfl; exact HB2.out.alloc _; exact size46; exact hZ; exact H1.out; intro w8 k8 g8 s8))
  refine bodyPost_ret (results_blk2 rfl _ _ (g + 1) 46 _ _ rfl k8 Tryd.underlying46 size46) rfl ?_
  have hg := HG.out
  subst hg
  refine ⟨_, rfl, ⟨_, _, 0, rfl, (hs2.alloc_ _).kept (HB2.out.alloc _) (by omega) g8, SlOwn.nil_⟩, (hB0.alloc (by omega) _).trans (below_of_grown g8 (by omega) (by simp; omega))⟩


theorem new_ok (pid parent : Int) (cs : Array Value) (w : World) (hp : 1 ≤ pid) (hn : 0 ≤ parent) (h : FrOK w w.heap.size cs) : Calls Tryd.prog 18 #[.int .i64 pid, .int .i64 parent, .agg cs] w (NewPost w pid parent) := by
  by_cases h0 : parent = 0
  · subst h0
    exact new_zero pid cs w hp h
  · by_cases h1 : parent = pid
    · exact new_self pid parent cs w hp (by omega) h1 h
    · exact new_link pid parent cs w hp (by omega) h1 h


theorem SlOwn.one_ {w : World} {base e sz bytes n : Nat} {v : Value} (h : SlOwn w base e sz bytes v n) : v.oneCell' = true := by
  obtain ⟨A, c, rfl⟩ := h.form
  rfl
/-- Whatever the parent. -/
def NewAny (w : World) (pid parent : Int) (e : Ending) (w' : World) : Prop :=
  ∃ cs r, e = .returned (.tuple #[.agg cs, .int .i64 r]) ∧ cs.size = 9 ∧ cs.all (·.oneCell') = true ∧ Below w.heap.size w w' ∧ ((parent < 0 ∧ r = 2) ∨ (0 ≤ parent ∧ r = 0 ∧ NewOK w' w.heap.size pid parent cs))
theorem new_any (pid parent : Int) (cs : Array Value) (w : World) (hp : 1 ≤ pid) (h : FrOK w w.heap.size cs) : Calls Tryd.prog 18 #[.int .i64 pid, .int .i64 parent, .agg cs] w (NewAny w pid parent) := by
  by_cases hn : parent < 0
  · refine (new_neg pid parent cs w hp hn).mono ?_
    rintro e w' ⟨cs', h1, h2, rfl, h3⟩
    exact ⟨cs', 2, rfl, h1, h2, h3, .inl ⟨hn, rfl⟩⟩
  · refine (new_ok pid parent cs w hp (by omega) h).mono ?_
    rintro e w' ⟨cs', rfl, h1, h3⟩
    refine ⟨cs', 0, rfl, ?_, ?_, h3, .inr ⟨by omega, rfl, h1⟩⟩
    · obtain ⟨stk, links, n, rfl, _⟩ := h1
      rfl
    · obtain ⟨stk, links, n, rfl, k2, k3⟩ := h1
      simp only [List.all_toArray, List.all_cons, List.all_nil, Bool.and_eq_true, Bool.and_true, k2.one, k3.one_]
      simp [Value.oneCell']

end Go.Proofs.YtkiccfdfbmiooaaDoor

