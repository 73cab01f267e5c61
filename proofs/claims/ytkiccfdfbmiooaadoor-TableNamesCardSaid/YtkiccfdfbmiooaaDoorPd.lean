/-
  (*Table).Pids: the pids in order, in a new slice.
-/
import Derived.Test.YtkiccfdfbmiooaaDoorAl
import Derived.Maps.AppendAt
namespace Go.Proofs.YtkiccfdfbmiooaaDoor
open Go Go.RowKit Go.Shelf Go.Proofs
attribute [local go_sem] Oper.semAt_some

section
variable {w w' : World} {B T bp bn last c : Nat} {D1 D2 : DataW Unit} {N : Int → ByteArray}
theorem infoI3 : (Tryd.prog.info? 3).map (fun i => (i.zero, i.size, i.bytes)) = some (some (.int .i64 0), 1, 8) := by kernel_rfl

theorem Kept.of_grown {Bo nL : Nat} {a b : World} (h : a.grownBy b (some Bo)) : Kept Bo nL a b :=
  ⟨h.os, h.tape, h.output, h.size, fun k o hk ho _ => (h.block k (Array.getElem?_eq_some_iff.1 ho).1 (fun e => hk (by injection e))).trans ho⟩
theorem Kept.put {Bo nL : Nat} (W : World) (l : Nat) (o o' : Obj) (hl : nL ≤ l) (h : W.heap[l]? = some o) (hc : o.isCells = false) : Kept Bo nL W (W.putObj l o') :=
  ⟨rfl, rfl, rfl, by simp, fun k o1 _ ho1 hor => by
    have hne : l ≠ k := by
      rintro rfl
      rw [h] at ho1
      cases ho1
      rcases hor with h1 | h1
      · omega
      · rw [hc] at h1; cases h1
    exact (World.putObj_heap_other (Ne.symm hne)).trans ho1⟩
theorem row_reads {a : World} {base n C : Nat} {A : Option Addr} {xs : List Value} (hv : a.ownsRow base 3 1 (.slice A n C) n xs) : (A = none → n = 0 ∧ n = 0) ∧ ∀ b, A = some b → ∀ j u, xs[j]? = some u → a.cell? (b.add j) = some u := by
  rcases hv.2 with ⟨e1, e2⟩ | ⟨g, cap, cur, e1, _⟩
  · injection e1 with e3
    subst e3
    exact ⟨fun _ => ⟨e2, e2⟩, (fun b hb => by cases hb)⟩
  · injection e1 with e3
    subst e3
    exact ⟨(fun hb => by cases hb), (fun b hb => by cases hb; exact hv.cells (g := g) rfl)⟩
theorem row_ne {a : World} {base e sz n : Nat} {v : Value} {xs : List Value} (hv : a.ownsRow base e sz v n xs) {row : Option Nat} {b : World} (hg : a.grownBy b row) (hr : ∀ r, row = some r → ∃ o, a.heap[r]? = some o ∧ o.isCells = false) : b.ownsRow base e sz v n xs := by
  refine ⟨hv.1, ?_⟩
  rcases hv.2 with h1 | ⟨g, cap, cur, e1, hb, hh, hx⟩
  · exact .inl h1
  · refine .inr ⟨g, cap, cur, e1, hb, (hg.block g (Array.getElem?_eq_some_iff.1 hh).1 (fun e2 => ?_)).trans hh, hx⟩
    obtain ⟨o, ho, hc⟩ := hr g e2.symm
    rw [hh] at ho
    cases ho
    cases hc

theorem row_far {a b : World} {base e sz n r : Nat} {v : Value} {xs : List Value} (hv : a.ownsRow base e sz v n xs) (hg : a.grownBy b (some r)) (hr : r < base) : b.ownsRow base e sz v n xs := by
  refine ⟨hv.1, ?_⟩
  rcases hv.2 with h1 | ⟨g, cap, cur, e1, hb, hh, hx⟩
  · exact .inl h1
  · exact .inr ⟨g, cap, cur, e1, hb, (hg.block g (Array.getElem?_eq_some_iff.1 hh).1 (fun e2 => by injection e2; omega)).trans hh, hx⟩
theorem row_lower {a : World} {base base' e sz n : Nat} {v : Value} {xs : List Value} (hv : a.ownsRow base e sz v n xs) (hb : base' ≤ base) : a.ownsRow base' e sz v n xs := by
  refine ⟨hv.1, ?_⟩
  rcases hv.2 with h1 | ⟨g, cap, cur, e1, hb', hr⟩
  · exact .inl h1
  · exact .inr ⟨g, cap, cur, e1, by omega, hr⟩
theorem Kept.of_none {Bo nL : Nat} {a b : World} (h : a.grownBy b none) : Kept Bo nL a b :=
  ⟨h.os, h.tape, h.output, h.size, fun k o _ ho _ => (h.block k (Array.getElem?_eq_some_iff.1 ho).1 (by simp)).trans ho⟩

def PidsPost (w : World) (D1 : DataW Unit) (e : Ending) (w' : World) : Prop :=
  ∃ A C zs, e = .returned (.slice A zs.length C) ∧ Pids D1 zs ∧ w'.ownsRow w.heap.size 3 1 (.slice A zs.length C) zs.length (zs.map encZ) ∧ Below w.heap.size w w'

/-- Between two rounds. -/
def PI (w : World) (pre : List Told) (W : World) : Prop :=
  (∃ A C, Boxed W w.heap.size 37 (.slice A pre.length C) ∧ W.ownsRow (w.heap.size + 1) 3 1 (.slice A pre.length C) pre.length ((pre.map (·.1)).map encZ)) ∧ Below w.heap.size w W

set_option maxRecDepth 100000 in
set_option maxHeartbeats 3200000 in
theorem pids_tab (h : TabOK w B T bp bn last c D1 D2 N) (hl : last ≤ 1000000) : Calls Tryd.prog 13 #[.pointer (some ⟨T, 0, none⟩)] w (PidsPost w D1) := by
  refine (callsIn_wide (n := 8)).1 ?_
  have f21 : Fence.wide.fn 21 := trivial
  have f31 : Fence.wide.fn 31 := trivial
  obtain ⟨i0, hi, hz0, hz1, hz2⟩ := info_parts infoI3
  refine callsIn_of_wp_marks Tryd.func13 rfl trivial ?_ rfl
  simp only [Tryd.ntmps13, List.size_toArray, List.length_cons, List.length_nil, Nat.reduceAdd, Nat.reduceSub, Array.replicate_succ, Array.replicate_zero, List.push_toArray, List.append_toArray, List.nil_append, List.cons_append]
  gi_wp2_with (gi_at_call 21; refine (all_in _ _ _).mono ?_; rintro e w' ⟨rfl, rfl⟩)
  have bO := Boxed.new w 37 (.slice none 0 0)
  have bN := Boxed.new (w.alloc (.cells #[.slice none 0 0] 37)) 25 (.pointer (some ⟨T, 0, none⟩))
  rw [World.size_alloc] at bN
  have hB0 : Below w.heap.size w ((w.alloc (.cells #[.slice none 0 0] 37)).alloc (.cells #[.pointer (some ⟨T, 0, none⟩)] 25)) := ((Below.refl _ w).alloc (Nat.le_refl _) _).alloc (by simp) _
  refine wpIn_rangeFunc_ownG rfl (by omega) (gf := 31) (lb := #[.pointer (some ⟨w.heap.size + 1, 0, none⟩)]) rfl trivial (enters_of Tryd.func31 (by kernel_rfl) rfl)
    (all_stops w _ h hl (w.heap.size + 1) hB0 (by simp only [World.size_alloc]; omega) (by omega) bN.cell) (fun h1 h2 => h1.trans h2) (fun W l o o' hl ho hc _ => Kept.put W l o o' hl ho hc) (Below.refl _ _) (fun _ => rfl)
    (PI w) (fun _ _ _ => False) ?hI (fun _ _ _ _ _ hs _ _ => hs) ?h0
    (fun x => { tmps := #[.pointer (some ⟨T, 0, none⟩), undef, .pointer (some ⟨w.heap.size, 0, none⟩), .int .i64 x.1, .pointer (some ⟨T, 0, none⟩), .func (.func 31) #[] #[.pointer (some ⟨w.heap.size + 1, 0, none⟩)], .int .i64 x.1, .agg x.2, undef, undef, undef, undef, undef, undef, undef, undef, undef, undef], defers := [] }) ?assign ?body ?done ?stop
  case hI =>
    rintro s W W' row ⟨⟨A, C, hv, hrow⟩, hb⟩ hg hr
    refine ⟨⟨A, C, hv.kept hg (fun e => ?_), row_ne hrow hg (fun r e => (hr r e).2)⟩, hb.grown hg hb.size (fun r e => ?_)⟩
    · have := (hr _ e.symm).1
      simp at this
      omega
    · have := (hr r e).1
      simp at this
      omega
  case h0 => exact ⟨⟨none, 0, bO.alloc _, World.ownsRow_nil _ _ _ _⟩, hB0⟩
  case assign =>
    intro l x W K hK
    gi_wp2
    exact hK
  case body =>
    rintro l pre x W ⟨⟨A, C, hv, hrow⟩, hB⟩ hlt
    have hc := hv.cell
    have hf := hv.frozen
    obtain ⟨hn, hrd⟩ := row_reads hrow
    have hnC : pre.length ≤ C := by
      rcases hrow.2 with ⟨e1, e2⟩ | ⟨g, cap, cur, e1, _, _, h4, _⟩
      · omega
      · injection e1; omega
    have hpl : pre.length ≤ 1000000 := by have := h.m1.size_le; omega
    have hwW := hB.size
    have Hn := Lib.hid hn
    have Hrd := Lib.hid hrd
    have Hv := Lib.hid hv
    have HB := Lib.hid hB
    have HR := Lib.hid hrow
    have HH := Lib.hid h
    clear hn hrd hv hB hrow h bO bN hB0 hlt
    gi_wp2_with (gi_at_builtin; refine wpListIn_append_grows rfl (.tmp 13) (.tmp 15) 37 rfl 3 i0 (.int .i64 0) 1 8 Tryd.underlying37 hi hz0 hz1 hz2 rfl (by decide) A pre.length pre.length ((pre.map (·.1)).map encZ) rfl Hn.out (by simp) (row_reads (HR.out.alloc _)).2 ⟨W.heap.size, 0, none⟩ 1 1 [.int .i64 x.1] rfl rfl (cell_one_new _ _ _) (by simp [Value.oneCell']) (by omega) (by unfold maxLen; omega) (by omega) ?_; intro v' w1 hown hg; obtain ⟨g', cap', rfl⟩ := ownsRow_succ hown; have hv1 := (Hv.out.alloc (.cells #[.int .i64 x.1] 3)).kept hg (by simp); have hc1 := hv1.cell; have hf1 := hv1.frozen; have HV1 := Lib.hid hv1; have HG := Lib.hid hg; have HO := Lib.hid hown; clear hv1 hg hown)
    have hgs := grownBy_setCell w1 w.heap.size 0 (.slice (some ⟨g', 0, none⟩) (pre.length + 1) cap')
    refine ⟨(((KeepsOthers.alloc W _).trans (KeepsOthers.of_grownBy HG.out (by simp))).trans (KeepsOthers.setCell w1 _ _)).from _, ((Kept.of_below ((Below.refl _ W).alloc (Nat.le_refl _) _)).trans (Kept.of_none HG.out)).trans (Kept.of_grown hgs), ⟨some ⟨g', 0, none⟩, cap', ?_, ?_⟩, ?_⟩
    · rw [List.length_append]
      exact HV1.out.set _
    · rw [List.length_append, List.map_append, List.map_append]
      exact row_far (row_lower HO.out (by simp; omega)) hgs (by omega)
    · exact ((HB.out.alloc hwW _).grown HG.out (by simp; omega) (by simp)).setCell (p := ⟨w.heap.size, 0, none⟩) (Nat.le_refl _) _
  case done =>
    rintro D ys W hD hP ⟨⟨A, C, hv, hrow⟩, hB⟩ hK
    have hc := hv.cell
    have hf := hv.frozen
    have Hv := Lib.hid hv
    have HP := Lib.hid hP
    have HB := Lib.hid hB
    have HR := Lib.hid hrow
    have HK := Lib.hid hK
    clear hv hP hB hrow hK h bO bN hB0
    gi_wp2
    have hK' := (KeepsOthers.setCell W ⟨w.heap.size, 0, none⟩ (.slice A ys.length C)).same D _ HK.out rfl
    refine ⟨by simp, .inl ⟨_, _, rfl, run_takeDeferred hK', ?_⟩⟩
    have hc5 := cell_kept (World.cell?_setCell_same' W ⟨w.heap.size, 0, none⟩ (.slice A ys.length C) (by rw [hc]; rfl)) (grownBy_putObj' _ D (.deferred none)) (fun r e => by cases e; exact ⟨_, hK', rfl⟩)
    refine ⟨.slice A ys.length C, ?_, A, C, ys.map (·.1), by rw [List.length_map], HP.out, ?_, (HB.out.setCell (p := ⟨w.heap.size, 0, none⟩) (by simp) _).trans (belowK_b (w := w) (Nat.le_refl _) _ D _ _ (by simp at hD; omega) hK' rfl rfl)⟩
    · simp [results, Tryd.f13, go_sem, hc5]
    · rw [List.length_map]
      exact ownsRow_putObj (row_lower (row_far HR.out (grownBy_setCell W w.heap.size 0 _) (by omega)) (by omega)) _ hK' rfl
  case stop =>
    rintro D c pre W _ _ h _
    exact h.elim
end
end Go.Proofs.YtkiccfdfbmiooaaDoor
