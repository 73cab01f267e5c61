/-
  A frame's cells: what may be cloned, what the call owns; frame.own, frame.stack at nil, frame.Push at nil, proc.frames at one frame.
-/
import Derived.Test.YtkiccfdfbmiooaaDoorOw
namespace Go.Proofs.YtkiccfdfbmiooaaDoor
open Go Go.RowKit

/-- A frame whose slices may be cloned. -/
def FrOK (w : World) (B : Nat) (cs : Array Value) : Prop := cs.size = 35 ∧ cs.all (·.oneCell') = true ∧ SlOK w B 5 72 (cs.getD 3 undef) ∧ SlOK w B 1 1 (cs.getD 4 undef) ∧ SlOK w B 5 72 (cs.getD 5 undef) ∧ SlOK w B 2 16 (cs.getD 6 undef) ∧ SlOK w B 13 176 (cs.getD 28 undef) ∧ SlOK w B 1 8 (cs.getD 33 undef) ∧ SlOK w B 1 8 (cs.getD 34 undef)
/-- A frame whose slices are the call's own. -/
def FrOwn (w : World) (B : Nat) (cs : Array Value) : Prop := cs.size = 35 ∧ cs.all (·.oneCell') = true ∧ SlOwn w B 32 5 72 (cs.getD 3 undef) (slen (cs.getD 3 undef)) ∧ SlOwn w B 4 1 1 (cs.getD 4 undef) (slen (cs.getD 4 undef)) ∧ SlOwn w B 32 5 72 (cs.getD 5 undef) (slen (cs.getD 5 undef)) ∧ SlOwn w B 108 2 16 (cs.getD 6 undef) (slen (cs.getD 6 undef)) ∧ SlOwn w B 114 13 176 (cs.getD 28 undef) (slen (cs.getD 28 undef)) ∧ SlOwn w B 3 1 8 (cs.getD 33 undef) (slen (cs.getD 33 undef)) ∧ SlOwn w B 3 1 8 (cs.getD 34 undef) (slen (cs.getD 34 undef))

section
variable {w w' : World} {B : Nat} {cs : Array Value}
theorem FrOwn.ok (h : FrOwn w B cs) : FrOK w w.heap.size cs := by
  obtain ⟨h0, h1, h3, h4, h5, h6, h28, h33, h34⟩ := h
  exact ⟨h0, h1, h3.ok, h4.ok, h5.ok, h6.ok, h28.ok, h33.ok, h34.ok⟩
theorem FrOK.below {C : Nat} (h : FrOK w B cs) (hb : Below C w w') (hC : B ≤ C) : FrOK w' B cs := by
  obtain ⟨h0, h1, h3, h4, h5, h6, h28, h33, h34⟩ := h
  exact ⟨h0, h1, h3.below hb hC, h4.below hb hC, h5.below hb hC, h6.below hb hC, h28.below hb hC, h33.below hb hC, h34.below hb hC⟩
theorem FrOK.more {B' : Nat} (h : FrOK w B cs) (hB : B ≤ B') : FrOK w B' cs := by
  obtain ⟨h0, h1, h3, h4, h5, h6, h28, h33, h34⟩ := h
  exact ⟨h0, h1, h3.more hB, h4.more hB, h5.more hB, h6.more hB, h28.more hB, h33.more hB, h34.more hB⟩
theorem FrOwn.below {C : Nat} (h : FrOwn w B cs) (hb : Below C w w') (hC : w.heap.size ≤ C) : FrOwn w' B cs := by
  obtain ⟨h0, h1, h3, h4, h5, h6, h28, h33, h34⟩ := h
  exact ⟨h0, h1, h3.below hb hC, h4.below hb hC, h5.below hb hC, h6.below hb hC, h28.below hb hC, h33.below hb hC, h34.below hb hC⟩
theorem FrOwn.mono {B' : Nat} (h : FrOwn w B cs) (hB : B' ≤ B) : FrOwn w B' cs := by
  obtain ⟨h0, h1, h3, h4, h5, h6, h28, h33, h34⟩ := h
  exact ⟨h0, h1, h3.mono hB, h4.mono hB, h5.mono hB, h6.mono hB, h28.mono hB, h33.mono hB, h34.mono hB⟩
theorem FrOwn.kept {g t : Nat} {ds : Array Value} (h : FrOwn w B cs) (hg : Blk w g t ds) (ht : 114 < t ∨ t = 46 ∨ t = 67) (hw : w.grownBy w' (some g)) : FrOwn w' B cs := by
  obtain ⟨h0, h1, h3, h4, h5, h6, h28, h33, h34⟩ := h
  exact ⟨h0, h1, h3.kept hg (by omega) hw, h4.kept hg (by omega) hw, h5.kept hg (by omega) hw, h6.kept hg (by omega) hw, h28.kept hg (by omega) hw, h33.kept hg (by omega) hw, h34.kept hg (by omega) hw⟩
theorem SlOwn.grown_lt {e sz bytes n : Nat} {v : Value} {row : Option Nat} (h : SlOwn w B e sz bytes v n) (hw : w.grownBy w' row) (hr : ∀ k, row = some k → k < B) : SlOwn w' B e sz bytes v n := by
  obtain ⟨xs, h1, h2, h3⟩ := h
  refine ⟨xs, h1.kept hw ?_, h2, h3⟩
  cases hb : v.ownBlock with
  | none => exact .inl rfl
  | some k =>
    have h4 := (h1.lt k hb).1
    exact .inr fun e => by have h5 := hr k e.symm; omega
theorem FrOwn.grown_lt {row : Option Nat} (h : FrOwn w B cs) (hw : w.grownBy w' row) (hr : ∀ k, row = some k → k < B) : FrOwn w' B cs := by
  obtain ⟨h0, h1, h3, h4, h5, h6, h28, h33, h34⟩ := h
  exact ⟨h0, h1, h3.grown_lt hw hr, h4.grown_lt hw hr, h5.grown_lt hw hr, h6.grown_lt hw hr, h28.grown_lt hw hr, h33.grown_lt hw hr, h34.grown_lt hw hr⟩
end

theorem cells35 (cs : Array Value) (h : cs.size = 35) : ∃ v0 v1 v2 v3 v4 v5 v6 v7 v8 v9 v10 v11 v12 v13 v14 v15 v16 v17 v18 v19 v20 v21 v22 v23 v24 v25 v26 v27 v28 v29 v30 v31 v32 v33 v34, cs = #[v0, v1, v2, v3, v4, v5, v6, v7, v8, v9, v10, v11, v12, v13, v14, v15, v16, v17, v18, v19, v20, v21, v22, v23, v24, v25, v26, v27, v28, v29, v30, v31, v32, v33, v34] := by
  obtain ⟨l⟩ := cs
  replace h : l.length = 35 := h
  rcases l with _ | ⟨v0, l⟩; · simp at h
  rcases l with _ | ⟨v1, l⟩; · simp at h
  rcases l with _ | ⟨v2, l⟩; · simp at h
  rcases l with _ | ⟨v3, l⟩; · simp at h
  rcases l with _ | ⟨v4, l⟩; · simp at h
  rcases l with _ | ⟨v5, l⟩; · simp at h
  rcases l with _ | ⟨v6, l⟩; · simp at h
  rcases l with _ | ⟨v7, l⟩; · simp at h
  rcases l with _ | ⟨v8, l⟩; · simp at h
  rcases l with _ | ⟨v9, l⟩; · simp at h
  rcases l with _ | ⟨v10, l⟩; · simp at h
  rcases l with _ | ⟨v11, l⟩; · simp at h
  rcases l with _ | ⟨v12, l⟩; · simp at h
  rcases l with _ | ⟨v13, l⟩; · simp at h
  rcases l with _ | ⟨v14, l⟩; · simp at h
  rcases l with _ | ⟨v15, l⟩; · simp at h
  rcases l with _ | ⟨v16, l⟩; · simp at h
  rcases l with _ | ⟨v17, l⟩; · simp at h
  rcases l with _ | ⟨v18, l⟩; · simp at h
  rcases l with _ | ⟨v19, l⟩; · simp at h
  rcases l with _ | ⟨v20, l⟩; · simp at h
  rcases l with _ | ⟨v21, l⟩; · simp at h
  rcases l with _ | ⟨v22, l⟩; · simp at h
  rcases l with _ | ⟨v23, l⟩; · simp at h
  rcases l with _ | ⟨v24, l⟩; · simp at h
  rcases l with _ | ⟨v25, l⟩; · simp at h
  rcases l with _ | ⟨v26, l⟩; · simp at h
  rcases l with _ | ⟨v27, l⟩; · simp at h
  rcases l with _ | ⟨v28, l⟩; · simp at h
  rcases l with _ | ⟨v29, l⟩; · simp at h
  rcases l with _ | ⟨v30, l⟩; · simp at h
  rcases l with _ | ⟨v31, l⟩; · simp at h
  rcases l with _ | ⟨v32, l⟩; · simp at h
  rcases l with _ | ⟨v33, l⟩; · simp at h
  rcases l with _ | ⟨v34, l⟩; · simp at h
  obtain rfl : l = [] := List.eq_nil_of_length_eq_zero (by simpa using h)
  exact ⟨v0, v1, v2, v3, v4, v5, v6, v7, v8, v9, v10, v11, v12, v13, v14, v15, v16, v17, v18, v19, v20, v21, v22, v23, v24, v25, v26, v27, v28, v29, v30, v31, v32, v33, v34, rfl⟩

theorem own_fr (cs : Array Value) (w : World) (h : FrOK w w.heap.size cs) : Calls Tryd.prog 42 #[.agg cs] w fun e w' => ∃ cs', e = .returned (.agg cs') ∧ FrOwn w' w.heap.size cs' ∧ Below w.heap.size w w' := by
  obtain ⟨h0, h1, h3, h4, h5, h6, h28, h33, h34⟩ := h
  obtain ⟨v0, v1, v2, v3, v4, v5, v6, v7, v8, v9, v10, v11, v12, v13, v14, v15, v16, v17, v18, v19, v20, v21, v22, v23, v24, v25, v26, v27, v28, v29, v30, v31, v32, v33, v34, rfl⟩ := cells35 cs h0
  refine (own_any v0 v1 v2 v3 v4 v5 v6 v7 v8 v9 v10 v11 v12 v13 v14 v15 v16 v17 v18 v19 v20 v21 v22 v23 v24 v25 v26 v27 v28 v29 v30 v31 v32 v33 v34 w h3 h4 h5 h6 h28 h33 h34 h1).mono ?_
  rintro e w' ⟨u3, u4, u5, u6, u28, u33, u34, rfl, g3, g4, g5, g6, g28, g33, g34, hb⟩
  refine ⟨_, rfl, ⟨rfl, ?_, ?_, ?_, ?_, ?_, ?_, ?_, ?_⟩, hb⟩
  · have o3 := g3.one
    have o4 := g4.one
    have o5 := g5.one
    have o6 := g6.one
    have o28 := g28.one
    have o33 := g33.one
    have o34 := g34.one
    simp only [List.all_toArray, List.all_cons, List.all_nil, Bool.and_eq_true, Bool.and_true] at h1 ⊢
    simp only [h1, o3, o4, o5, o6, o28, o33, o34, and_self]
  · exact (show slen u3 = slen v3 from g3.len).symm ▸ g3
  · exact (show slen u4 = slen v4 from g4.len).symm ▸ g4
  · exact (show slen u5 = slen v5 from g5.len).symm ▸ g5
  · exact (show slen u6 = slen v6 from g6.len).symm ▸ g6
  · exact (show slen u28 = slen v28 from g28.len).symm ▸ g28
  · exact (show slen u33 = slen v33 from g33.len).symm ▸ g33
  · exact (show slen u34 = slen v34 from g34.len).symm ▸ g34

theorem info41 : (Tryd.prog.info? 41).map (fun i => (i.zero.map (·.cells.size), i.size, i.bytes)) = some (some 35, 35, 504) := by kernel_rfl
theorem Reads.of_new (w : World) (cs : Array Value) (t n : Nat) (hn : cs.size = n) : Reads (w.alloc (.cells cs t)) (w.heap.size + 1) n (some ⟨w.heap.size, 0, none⟩) 1 cs.toList :=
  ⟨by simp [hn], fun _ => ⟨_, rfl, by simp, fun j u hu => by
    have hadd : (⟨w.heap.size, 0, none⟩ : Addr).add j = ⟨w.heap.size, j, none⟩ := by unfold Addr.add; split <;> simp_all
    rw [hadd, (Blk.new w t cs).cell j]
    simpa using hu⟩⟩
set_option maxRecDepth 100000 in
theorem stack_nil (w : World) : Calls Tryd.prog 41 #[.slice none 0 0] w fun e w' => e = .returned (.slice (some ⟨w.heap.size, 0, none⟩) 0 0) ∧ Blk w' w.heap.size 41 #[] ∧ Below w.heap.size w w' ∧ w.heap.size < w'.heap.size := by
  have hmk : ∀ w : World, (Instr.makeSlice 42 (.int .i64 0) (.int .i64 0)).run Tryd.prog w = .ok (.slice (some ⟨w.heap.size, 0, none⟩) 0 0) (w.alloc (.cells #[] 41)) := fun w => by
    obtain ⟨i0, z, hi0, hz0, hz1, hz2, hz3⟩ := info_any info41
    have := run_make (P := Tryd.prog) w 42 41 i0 z Tryd.underlying42 hi0 hz0 .i64 .i64 0 0 (by omega) (by omega) (by omega) (by omega)
    have e : madeCells z.cells 0 = #[] := Array.eq_empty_of_size_eq_zero (by simp [madeCells])
    simpa [e] using this
  go_enter Tryd.func41, Tryd.ntmps41
  go_wp2_with fail
  refine wp_loop_rounds 1 ?_
  rw [rounds_succ]
  go_wp2_with fail
  go_ret
  exact ⟨rfl, Blk.new w 41 #[], (Below.refl _ _).alloc (Nat.le_refl _) _, by simp⟩

theorem below_lt {B : Nat} {w w' : World} (h : Below B w w') {k : Nat} (hk : k < w.heap.size) : k < w'.heap.size := Nat.lt_of_lt_of_le hk h.size

theorem wp_new1 {P : Program} {c : Code} {Q : Exit → Act → World → Prop} {a : Act} (w : World) (A : Array Value) (t : TypeId)
    (h : ∀ (W : World), Below w.heap.size w W → W.heap.size = w.heap.size + 1 → Blk W w.heap.size t A → Code.wp P c Q a W) : Code.wp P c Q a (w.alloc (.cells A t)) :=
  h _ ((Below.refl _ _).alloc (Nat.le_refl _) _) (by simp) (Blk.new w t A)

/-- A stack of one frame, of the call's own. -/
def Stk (w : World) (B : Nat) (v : Value) : Prop := ∃ cs', w.ownsRow B 41 35 v 1 cs'.toList ∧ FrOwn w B cs'
def PushPost (w : World) (e : Ending) (w' : World) : Prop := ∃ v, e = .returned (.tuple #[v, .int .i64 0]) ∧ Stk w' w.heap.size v ∧ Below w.heap.size w w'
set_option maxRecDepth 100000 in
set_option maxHeartbeats 800000 in
theorem push_nil (cs : Array Value) (w : World) (h : FrOK w w.heap.size cs) : Calls Tryd.prog 35 #[.slice none 0 0, .agg cs] w (PushPost w) := by
  have hsz := h.1
  go_enter Tryd.func35, Tryd.ntmps35
  go_wp2_with fail
  refine wp_new1 _ _ _ ?_
  obtain ⟨g, hg⟩ : ∃ g, w.heap.size = g := ⟨_, rfl⟩
  rw [hg] at h ⊢
  have HG := Lib.hid hg
  clear hg
  intro W hB0 hle hb1
  replace hle : g + 1 ≤ W.heap.size := by omega
  have hi41 : (Tryd.prog.info? 41).map (·.size) = some cs.size := by rw [hsz]; exact size41
  have HI := Lib.hid hi41
  clear hi41
  refine wp_region_K (fun w' => Blk w' g 41 cs) 3 (by kernel_rfl) hb1 (fun hS => ?_)
  refine wpAnyK_take (i := 0) (dst := some 9) (v := ?_) rfl rfl (by kernel_rfl) (by kernel_rfl) (fun _ _ _ h => h) (Or.inl ⟨by rfl, ?_⟩) (by assumption) ?_
  rotate_left
  · intro wS hS; go_simp; try rfl
  try simp only [Act.put, List.setIfInBounds_toArray, List.set_cons_zero, List.set_cons_succ]
  refine wpAnyK_take (i := 2) (dst := some 11) (v := .agg cs) rfl rfl (by kernel_rfl) (by kernel_rfl) (fun _ _ _ h => h) (yieldsIf_load_blk (by rfl) 41 (.tmp 3) rfl g rfl 41 cs _ (fun _ h => h) Tryd.underlying41 HI.out) (by assumption) ?_
  try simp only [Act.put, List.setIfInBounds_toArray, List.set_cons_zero, List.set_cons_succ]
  refine wpAnyK_one (i := 1) (by kernel_rfl) rfl rfl (fun K hK => ?_)
  go_simp
  refine (stack_nil _).mono ?_
  rintro e w1 ⟨rfl, hk1, hw1, hlt1⟩
  replace hS : Blk w1 g 41 cs := hb1.drew.below hw1 (by simp; omega)
  replace hB0 : Below g w w1 := hB0.drew.trans (hw1.mono (by simp; omega))
  replace hle : g + 2 ≤ w1.heap.size := by simp at hlt1; omega
  refine hK _ _ hS ?_
  clear hK K
  try simp only [Act.put, List.setIfInBounds_toArray, List.set_cons_zero, List.set_cons_succ]
  refine wpAnyK_tail (n := 3) rfl (by kernel_rfl) (by kernel_rfl) ?_
  simp only [List.drop_succ_cons, List.drop_zero]
  have hsw : g ≤ W.heap.size := by have := hb1.lt; omega
  replace hk1 : Blk w1 W.heap.size 41 #[] := hk1
  replace hlt1 : W.heap.size < w1.heap.size := hlt1
  have hlt0 := hlt1
  obtain ⟨i0, z, hi0, hz0, hz1, hz2, hz3⟩ := info_any info41
  have hfr := (h.below hB0 (Nat.le_refl _)).more (B' := w1.heap.size) (by omega)
  clear hw1 h hS hb1
  go_wp2_with (first
    | (go_at_call 42; refine (own_fr cs _ hfr).mono ?_; rintro e w2 ⟨cs', rfl, hfo, hw2⟩; replace hk1 := hk1.below hw2 hlt1; replace hB0 := hB0.trans (hw2.mono (by omega)); replace hlt1 := Nat.lt_of_lt_of_le hlt1 hw2.size; have hs2 := hfo.1; have ho2 := hfo.2.1; obtain ⟨c0, c1, c2, c3, c4, c5, c6, c7, c8, c9, c10, c11, c12, c13, c14, c15, c16, c17, c18, c19, c20, c21, c22, c23, c24, c25, c26, c27, c28, c29, c30, c31, c32, c33, c34, rfl⟩ := cells35 cs' hs2; have HF := Lib.hid hfo; have HO := Lib.hid ho2; clear hfo ho2 hs2)
    | (at_builtin
       go_must (refine wpList_append_any _ rfl (.tmp 10) (.tmp 13) _ rfl g 41 i0 z 35 504 Tryd.underlying42 hi0 hz0 hz1 hz2 hz3 (by omega) (.slice (some ⟨W.heap.size, 0, none⟩) 0 0) 0 [] rfl ⟨by simp, .inr ⟨W.heap.size, 0, #[], rfl, hsw, hk1.alloc _, Nat.le_refl _, by unfold maxLen; omega, by simp, by simp⟩⟩ (w2.heap.size + 1) (some ⟨w2.heap.size, 0, none⟩) 1 1 _ rfl (Reads.of_new w2 #[c0, c1, c2, c3, c4, c5, c6, c7, c8, c9, c10, c11, c12, c13, c14, c15, c16, c17, c18, c19, c20, c21, c22, c23, c24, c25, c26, c27, c28, c29, c30, c31, c32, c33, c34] 41 35 rfl) (fun u hu => (Array.all_eq_true_iff_forall_mem.1 HO.out) u (by simpa using hu)) (by unfold maxLen; omega) (by omega) (by simp; omega) ?_)
       intro v1 w3 hown3 hg3 hat3
       have hb3 : Below w2.heap.size w2 (w2.alloc (.cells #[c0, c1, c2, c3, c4, c5, c6, c7, c8, c9, c10, c11, c12, c13, c14, c15, c16, c17, c18, c19, c20, c21, c22, c23, c24, c25, c26, c27, c28, c29, c30, c31, c32, c33, c34] 41)) := (Below.refl _ _).alloc (Nat.le_refl _) _
       have hB3 : Below g w w3 := (hB0.trans (hb3.mono (by omega))).grown hg3 (by simp; omega) (by intro k hk; simp [Value.ownBlock] at hk; omega)))
  go_ret2
  have hg := HG.out
  subst hg
  refine ⟨v1, rfl, ⟨#[c0, c1, c2, c3, c4, c5, c6, c7, c8, c9, c10, c11, c12, c13, c14, c15, c16, c17, c18, c19, c20, c21, c22, c23, c24, c25, c26, c27, c28, c29, c30, c31, c32, c33, c34], by simpa using hown3, ?_⟩, hB3⟩
  exact ((HF.out.below hb3 (Nat.le_refl _)).grown_lt hg3 (fun k hk => by simp [Value.ownBlock] at hk; omega)).mono (by omega)
end Go.Proofs.YtkiccfdfbmiooaaDoor

