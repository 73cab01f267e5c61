/-
  slices.Clone at each element type of the program's frames: a new slice of as many cells, nil for nil; nothing that was there turns. (Printed by gen_clone.py.)
-/
import Derived.Test.YtkiccfdfbmiooaaDoorProg
import Derived.Test.YtkiccfdfbmiooaaDoorAp
import Derived.WalkKit
import Derived.WalkSpells
import Derived.KernelRfl
namespace Go.Proofs.YtkiccfdfbmiooaaDoor
open Go Go.RowKit

theorem info_any {P : Program} {e : TypeId} {s b : Nat} (h : (P.info? e).map (fun i => (i.zero.map (·.cells.size), i.size, i.bytes)) = some (some s, s, b)) :
    ∃ i z, P.info? e = some i ∧ i.zero = some z ∧ i.size = s ∧ i.bytes = b ∧ z.cells.size = s := by
  cases hi : P.info? e with
  | none => simp [hi] at h
  | some i =>
    simp only [hi, Option.map_some, Option.some.injEq, Prod.mk.injEq] at h
    obtain ⟨h1, h2, h3⟩ := h
    cases hz : i.zero with
    | none => simp [hz] at h1
    | some z =>
      simp [hz] at h1
      exact ⟨i, z, rfl, hz, h2, h3, h1⟩

/-- A slice that may be cloned: nil, or its cells are there, within the reach. -/
def SlOK (w : World) (B sz bytes : Nat) (v : Value) : Prop := v = .slice none 0 0 ∨ ∃ a n c, v = .slice (some a) n c ∧ RdS w B sz (some a) n ∧ n * bytes ≤ 140737488351232 ∧ n ≤ maxLen
/-- A slice of the call's own, from block 'base' on, that may be cloned. -/
def SlOwn (w : World) (base e sz bytes : Nat) (v : Value) (n : Nat) : Prop := ∃ xs, w.ownsRow base e sz v n xs ∧ (∀ u ∈ xs, u.oneCell' = true) ∧ n * bytes ≤ 140737488351232
def slen : Value → Nat
  | .slice _ n _ => n
  | _ => 0

section
variable {w w' : World} {B sz bytes base e n : Nat} {v : Value}
theorem SlOK.below {C : Nat} (h : SlOK w B sz bytes v) (hb : Below C w w') (hC : B ≤ C) : SlOK w' B sz bytes v := by
  rcases h with h | ⟨a, n, c, e, h1, h2, h3⟩
  · exact .inl h
  · exact .inr ⟨a, n, c, e, h1.below hb hC, h2, h3⟩
theorem SlOK.more {B' : Nat} (h : SlOK w B sz bytes v) (hB : B ≤ B') : SlOK w B' sz bytes v := by
  rcases h with h | ⟨a, n, c, e, h1, h2, h3⟩
  · exact .inl h
  · exact .inr ⟨a, n, c, e, h1.more hB, h2, h3⟩
theorem SlOwn.ok (h : SlOwn w base e sz bytes v n) : SlOK w w.heap.size sz bytes v := by
  obtain ⟨xs, h1, h2, h3⟩ := h
  rcases h1.2 with ⟨rfl, _⟩ | ⟨g, cap, cur, rfl, _, _, hc, hm, _⟩
  · exact .inl rfl
  · exact .inr ⟨_, n, cap, rfl, RdS.of_own h1 h2, h3, by omega⟩
theorem SlOwn.len (h : SlOwn w base e sz bytes v n) : slen v = n := by
  obtain ⟨xs, h1, _⟩ := h
  rcases h1.2 with ⟨rfl, rfl⟩ | ⟨g, cap, cur, rfl, _⟩ <;> rfl
theorem SlOwn.one (h : SlOwn w base e sz bytes v n) : v.oneCell' = true := by
  obtain ⟨xs, h1, _⟩ := h
  rcases h1.2 with ⟨rfl, rfl⟩ | ⟨g, cap, cur, rfl, _⟩ <;> rfl
theorem SlOK.one (h : SlOK w B sz bytes v) : v.oneCell' = true := by
  rcases h with rfl | ⟨a, n, c, rfl, _⟩ <;> rfl
theorem SlOwn.mono {base' : Nat} (h : SlOwn w base e sz bytes v n) (hb : base' ≤ base) : SlOwn w base' e sz bytes v n := by
  obtain ⟨xs, h1, h2, h3⟩ := h
  refine ⟨xs, ⟨h1.1, ?_⟩, h2, h3⟩
  rcases h1.2 with h1 | ⟨g, cap, cur, e, hg, h⟩
  · exact .inl h1
  · exact .inr ⟨g, cap, cur, e, by omega, h⟩
theorem SlOwn.below {C : Nat} (h : SlOwn w base e sz bytes v n) (hb : Below C w w') (hC : w.heap.size ≤ C) : SlOwn w' base e sz bytes v n := by
  obtain ⟨xs, h1, h2, h3⟩ := h
  refine ⟨xs, ⟨h1.1, ?_⟩, h2, h3⟩
  rcases h1.2 with h1 | ⟨g, cap, cur, e, hg, hh, h⟩
  · exact .inl h1
  · exact .inr ⟨g, cap, cur, e, hg, (hb.block g (by have := (Array.getElem?_eq_some_iff.1 hh).1; omega)).trans hh, h⟩
theorem SlOwn.nil_ : SlOwn w base e sz bytes (.slice none 0 0) 0 := ⟨[], World.ownsRow_nil w base e sz, by simp, by omega⟩
end


theorem info59 : (Tryd.prog.info? 59).map (fun i => (i.zero.map (·.cells.size), i.size, i.bytes)) = some (some 6, 6, 80) := by kernel_rfl
set_option maxRecDepth 100000 in
theorem clone26 (v : Value) (w : World) (h : SlOK w w.heap.size 6 80 v) :
    Calls Tryd.prog 26 #[v] w fun e w' => ∃ v', e = .returned v' ∧ SlOwn w' w.heap.size 59 6 80 v' (slen v) ∧ Below w.heap.size w w' := by
  have q : ∀ (w : World) (a : Option Addr) (n c n' c' : Nat), (binOp .eql 43 (.slice a n c) (.slice none n' c')).run Tryd.prog w = .ok (.bool a.isNone) w := fun w a n c n' c' => Lib.run_eql_slice_nil w _ _ a n c n' c' Tryd.underlying43
  rcases h with rfl | ⟨a, n, c, rfl, hr, hb, hn⟩
  · go_enter Tryd.func26, Tryd.ntmps26
    go_wp2
    go_ret
    exact ⟨_, rfl, SlOwn.nil_, Below.refl _ _⟩
  · obtain ⟨i0, z, hi0, hz0, hz1, hz2, hz3⟩ := info_any info59
    obtain ⟨xs, hx, h1⟩ := hr.reads
    go_enter Tryd.func26, Tryd.ntmps26
    go_wp2_with (first
      | (at_builtin
         refine wpList_append_any _ rfl (.tmp 5) (.tmp 6) _ rfl w.heap.size 59 i0 z 6 80 Tryd.underlying43 hi0 hz0 hz1 hz2 hz3 (by omega) (.slice (some ⟨w.heap.size, 0, none⟩) 0 0) 0 [] rfl
           ⟨by simp, .inr ⟨w.heap.size, 0, #[], rfl, Nat.le_refl _, heap_alloc_new w _, Nat.le_refl _, by unfold maxLen; omega, by simp, by simp⟩⟩ w.heap.size (some a) n c xs rfl (hx.alloc (Nat.le_refl _) _) h1 (by omega) (by omega) (by simp) ?_
         intro v1 w1 hown1 hg1 _
         have hbw1 : Below w.heap.size w w1 := ((Below.refl _ _).alloc (Nat.le_refl _) _).grown hg1 (by simp) (by simp [Value.ownBlock])))
    go_ret
    simp only [Nat.zero_add, List.nil_append] at hown1
    exact ⟨v1, rfl, ⟨xs, hown1, h1, hb⟩, hbw1⟩


theorem info3 : (Tryd.prog.info? 3).map (fun i => (i.zero.map (·.cells.size), i.size, i.bytes)) = some (some 1, 1, 8) := by kernel_rfl
set_option maxRecDepth 100000 in
theorem clone27 (v : Value) (w : World) (h : SlOK w w.heap.size 1 8 v) :
    Calls Tryd.prog 27 #[v] w fun e w' => ∃ v', e = .returned v' ∧ SlOwn w' w.heap.size 3 1 8 v' (slen v) ∧ Below w.heap.size w w' := by
  have q : ∀ (w : World) (a : Option Addr) (n c n' c' : Nat), (binOp .eql 37 (.slice a n c) (.slice none n' c')).run Tryd.prog w = .ok (.bool a.isNone) w := fun w a n c n' c' => Lib.run_eql_slice_nil w _ _ a n c n' c' Tryd.underlying37
  rcases h with rfl | ⟨a, n, c, rfl, hr, hb, hn⟩
  · go_enter Tryd.func27, Tryd.ntmps27
    go_wp2
    go_ret
    exact ⟨_, rfl, SlOwn.nil_, Below.refl _ _⟩
  · obtain ⟨i0, z, hi0, hz0, hz1, hz2, hz3⟩ := info_any info3
    obtain ⟨xs, hx, h1⟩ := hr.reads
    go_enter Tryd.func27, Tryd.ntmps27
    go_wp2_with (first
      | (at_builtin
         refine wpList_append_any _ rfl (.tmp 5) (.tmp 6) _ rfl w.heap.size 3 i0 z 1 8 Tryd.underlying37 hi0 hz0 hz1 hz2 hz3 (by omega) (.slice (some ⟨w.heap.size, 0, none⟩) 0 0) 0 [] rfl
           ⟨by simp, .inr ⟨w.heap.size, 0, #[], rfl, Nat.le_refl _, heap_alloc_new w _, Nat.le_refl _, by unfold maxLen; omega, by simp, by simp⟩⟩ w.heap.size (some a) n c xs rfl (hx.alloc (Nat.le_refl _) _) h1 (by omega) (by omega) (by simp) ?_
         intro v1 w1 hown1 hg1 _
         have hbw1 : Below w.heap.size w w1 := ((Below.refl _ _).alloc (Nat.le_refl _) _).grown hg1 (by simp) (by simp [Value.ownBlock])))
    go_ret
    simp only [Nat.zero_add, List.nil_append] at hown1
    exact ⟨v1, rfl, ⟨xs, hown1, h1, hb⟩, hbw1⟩


theorem info83 : (Tryd.prog.info? 83).map (fun i => (i.zero.map (·.cells.size), i.size, i.bytes)) = some (some 2, 2, 16) := by kernel_rfl
set_option maxRecDepth 100000 in
theorem clone28 (v : Value) (w : World) (h : SlOK w w.heap.size 2 16 v) :
    Calls Tryd.prog 28 #[v] w fun e w' => ∃ v', e = .returned v' ∧ SlOwn w' w.heap.size 83 2 16 v' (slen v) ∧ Below w.heap.size w w' := by
  have q : ∀ (w : World) (a : Option Addr) (n c n' c' : Nat), (binOp .eql 44 (.slice a n c) (.slice none n' c')).run Tryd.prog w = .ok (.bool a.isNone) w := fun w a n c n' c' => Lib.run_eql_slice_nil w _ _ a n c n' c' Tryd.underlying44
  rcases h with rfl | ⟨a, n, c, rfl, hr, hb, hn⟩
  · go_enter Tryd.func28, Tryd.ntmps28
    go_wp2
    go_ret
    exact ⟨_, rfl, SlOwn.nil_, Below.refl _ _⟩
  · obtain ⟨i0, z, hi0, hz0, hz1, hz2, hz3⟩ := info_any info83
    obtain ⟨xs, hx, h1⟩ := hr.reads
    go_enter Tryd.func28, Tryd.ntmps28
    go_wp2_with (first
      | (at_builtin
         refine wpList_append_any _ rfl (.tmp 5) (.tmp 6) _ rfl w.heap.size 83 i0 z 2 16 Tryd.underlying44 hi0 hz0 hz1 hz2 hz3 (by omega) (.slice (some ⟨w.heap.size, 0, none⟩) 0 0) 0 [] rfl
           ⟨by simp, .inr ⟨w.heap.size, 0, #[], rfl, Nat.le_refl _, heap_alloc_new w _, Nat.le_refl _, by unfold maxLen; omega, by simp, by simp⟩⟩ w.heap.size (some a) n c xs rfl (hx.alloc (Nat.le_refl _) _) h1 (by omega) (by omega) (by simp) ?_
         intro v1 w1 hown1 hg1 _
         have hbw1 : Below w.heap.size w w1 := ((Below.refl _ _).alloc (Nat.le_refl _) _).grown hg1 (by simp) (by simp [Value.ownBlock])))
    go_ret
    simp only [Nat.zero_add, List.nil_append] at hown1
    exact ⟨v1, rfl, ⟨xs, hown1, h1, hb⟩, hbw1⟩


theorem info32 : (Tryd.prog.info? 32).map (fun i => (i.zero.map (·.cells.size), i.size, i.bytes)) = some (some 5, 5, 72) := by kernel_rfl
set_option maxRecDepth 100000 in
theorem clone46 (v : Value) (w : World) (h : SlOK w w.heap.size 5 72 v) :
    Calls Tryd.prog 46 #[v] w fun e w' => ∃ v', e = .returned v' ∧ SlOwn w' w.heap.size 32 5 72 v' (slen v) ∧ Below w.heap.size w w' := by
  have q : ∀ (w : World) (a : Option Addr) (n c n' c' : Nat), (binOp .eql 28 (.slice a n c) (.slice none n' c')).run Tryd.prog w = .ok (.bool a.isNone) w := fun w a n c n' c' => Lib.run_eql_slice_nil w _ _ a n c n' c' Tryd.underlying28
  rcases h with rfl | ⟨a, n, c, rfl, hr, hb, hn⟩
  · go_enter Tryd.func46, Tryd.ntmps46
    go_wp2
    go_ret
    exact ⟨_, rfl, SlOwn.nil_, Below.refl _ _⟩
  · obtain ⟨i0, z, hi0, hz0, hz1, hz2, hz3⟩ := info_any info32
    obtain ⟨xs, hx, h1⟩ := hr.reads
    go_enter Tryd.func46, Tryd.ntmps46
    go_wp2_with (first
      | (at_builtin
         refine wpList_append_any _ rfl (.tmp 5) (.tmp 6) _ rfl w.heap.size 32 i0 z 5 72 Tryd.underlying28 hi0 hz0 hz1 hz2 hz3 (by omega) (.slice (some ⟨w.heap.size, 0, none⟩) 0 0) 0 [] rfl
           ⟨by simp, .inr ⟨w.heap.size, 0, #[], rfl, Nat.le_refl _, heap_alloc_new w _, Nat.le_refl _, by unfold maxLen; omega, by simp, by simp⟩⟩ w.heap.size (some a) n c xs rfl (hx.alloc (Nat.le_refl _) _) h1 (by omega) (by omega) (by simp) ?_
         intro v1 w1 hown1 hg1 _
         have hbw1 : Below w.heap.size w w1 := ((Below.refl _ _).alloc (Nat.le_refl _) _).grown hg1 (by simp) (by simp [Value.ownBlock])))
    go_ret
    simp only [Nat.zero_add, List.nil_append] at hown1
    exact ⟨v1, rfl, ⟨xs, hown1, h1, hb⟩, hbw1⟩


theorem info4 : (Tryd.prog.info? 4).map (fun i => (i.zero.map (·.cells.size), i.size, i.bytes)) = some (some 1, 1, 1) := by kernel_rfl
set_option maxRecDepth 100000 in
theorem clone47 (v : Value) (w : World) (h : SlOK w w.heap.size 1 1 v) :
    Calls Tryd.prog 47 #[v] w fun e w' => ∃ v', e = .returned v' ∧ SlOwn w' w.heap.size 4 1 1 v' (slen v) ∧ Below w.heap.size w w' := by
  have q : ∀ (w : World) (a : Option Addr) (n c n' c' : Nat), (binOp .eql 29 (.slice a n c) (.slice none n' c')).run Tryd.prog w = .ok (.bool a.isNone) w := fun w a n c n' c' => Lib.run_eql_slice_nil w _ _ a n c n' c' Tryd.underlying29
  rcases h with rfl | ⟨a, n, c, rfl, hr, hb, hn⟩
  · go_enter Tryd.func47, Tryd.ntmps47
    go_wp2
    go_ret
    exact ⟨_, rfl, SlOwn.nil_, Below.refl _ _⟩
  · obtain ⟨i0, z, hi0, hz0, hz1, hz2, hz3⟩ := info_any info4
    obtain ⟨xs, hx, h1⟩ := hr.reads
    go_enter Tryd.func47, Tryd.ntmps47
    go_wp2_with (first
      | (at_builtin
         refine wpList_append_any _ rfl (.tmp 5) (.tmp 6) _ rfl w.heap.size 4 i0 z 1 1 Tryd.underlying29 hi0 hz0 hz1 hz2 hz3 (by omega) (.slice (some ⟨w.heap.size, 0, none⟩) 0 0) 0 [] rfl
           ⟨by simp, .inr ⟨w.heap.size, 0, #[], rfl, Nat.le_refl _, heap_alloc_new w _, Nat.le_refl _, by unfold maxLen; omega, by simp, by simp⟩⟩ w.heap.size (some a) n c xs rfl (hx.alloc (Nat.le_refl _) _) h1 (by omega) (by omega) (by simp) ?_
         intro v1 w1 hown1 hg1 _
         have hbw1 : Below w.heap.size w w1 := ((Below.refl _ _).alloc (Nat.le_refl _) _).grown hg1 (by simp) (by simp [Value.ownBlock])))
    go_ret
    simp only [Nat.zero_add, List.nil_append] at hown1
    exact ⟨v1, rfl, ⟨xs, hown1, h1, hb⟩, hbw1⟩


theorem info108 : (Tryd.prog.info? 108).map (fun i => (i.zero.map (·.cells.size), i.size, i.bytes)) = some (some 2, 2, 16) := by kernel_rfl
set_option maxRecDepth 100000 in
theorem clone48 (v : Value) (w : World) (h : SlOK w w.heap.size 2 16 v) :
    Calls Tryd.prog 48 #[v] w fun e w' => ∃ v', e = .returned v' ∧ SlOwn w' w.heap.size 108 2 16 v' (slen v) ∧ Below w.heap.size w w' := by
  have q : ∀ (w : World) (a : Option Addr) (n c n' c' : Nat), (binOp .eql 30 (.slice a n c) (.slice none n' c')).run Tryd.prog w = .ok (.bool a.isNone) w := fun w a n c n' c' => Lib.run_eql_slice_nil w _ _ a n c n' c' Tryd.underlying30
  rcases h with rfl | ⟨a, n, c, rfl, hr, hb, hn⟩
  · go_enter Tryd.func48, Tryd.ntmps48
    go_wp2
    go_ret
    exact ⟨_, rfl, SlOwn.nil_, Below.refl _ _⟩
  · obtain ⟨i0, z, hi0, hz0, hz1, hz2, hz3⟩ := info_any info108
    obtain ⟨xs, hx, h1⟩ := hr.reads
    go_enter Tryd.func48, Tryd.ntmps48
    go_wp2_with (first
      | (at_builtin
         refine wpList_append_any _ rfl (.tmp 5) (.tmp 6) _ rfl w.heap.size 108 i0 z 2 16 Tryd.underlying30 hi0 hz0 hz1 hz2 hz3 (by omega) (.slice (some ⟨w.heap.size, 0, none⟩) 0 0) 0 [] rfl
           ⟨by simp, .inr ⟨w.heap.size, 0, #[], rfl, Nat.le_refl _, heap_alloc_new w _, Nat.le_refl _, by unfold maxLen; omega, by simp, by simp⟩⟩ w.heap.size (some a) n c xs rfl (hx.alloc (Nat.le_refl _) _) h1 (by omega) (by omega) (by simp) ?_
         intro v1 w1 hown1 hg1 _
         have hbw1 : Below w.heap.size w w1 := ((Below.refl _ _).alloc (Nat.le_refl _) _).grown hg1 (by simp) (by simp [Value.ownBlock])))
    go_ret
    simp only [Nat.zero_add, List.nil_append] at hown1
    exact ⟨v1, rfl, ⟨xs, hown1, h1, hb⟩, hbw1⟩


theorem info114 : (Tryd.prog.info? 114).map (fun i => (i.zero.map (·.cells.size), i.size, i.bytes)) = some (some 13, 13, 176) := by kernel_rfl
set_option maxRecDepth 100000 in
theorem clone49 (v : Value) (w : World) (h : SlOK w w.heap.size 13 176 v) :
    Calls Tryd.prog 49 #[v] w fun e w' => ∃ v', e = .returned v' ∧ SlOwn w' w.heap.size 114 13 176 v' (slen v) ∧ Below w.heap.size w w' := by
  have q : ∀ (w : World) (a : Option Addr) (n c n' c' : Nat), (binOp .eql 33 (.slice a n c) (.slice none n' c')).run Tryd.prog w = .ok (.bool a.isNone) w := fun w a n c n' c' => Lib.run_eql_slice_nil w _ _ a n c n' c' Tryd.underlying33
  rcases h with rfl | ⟨a, n, c, rfl, hr, hb, hn⟩
  · go_enter Tryd.func49, Tryd.ntmps49
    go_wp2
    go_ret
    exact ⟨_, rfl, SlOwn.nil_, Below.refl _ _⟩
  · obtain ⟨i0, z, hi0, hz0, hz1, hz2, hz3⟩ := info_any info114
    obtain ⟨xs, hx, h1⟩ := hr.reads
    go_enter Tryd.func49, Tryd.ntmps49
    go_wp2_with (first
      | (at_builtin
         refine wpList_append_any _ rfl (.tmp 5) (.tmp 6) _ rfl w.heap.size 114 i0 z 13 176 Tryd.underlying33 hi0 hz0 hz1 hz2 hz3 (by omega) (.slice (some ⟨w.heap.size, 0, none⟩) 0 0) 0 [] rfl
           ⟨by simp, .inr ⟨w.heap.size, 0, #[], rfl, Nat.le_refl _, heap_alloc_new w _, Nat.le_refl _, by unfold maxLen; omega, by simp, by simp⟩⟩ w.heap.size (some a) n c xs rfl (hx.alloc (Nat.le_refl _) _) h1 (by omega) (by omega) (by simp) ?_
         intro v1 w1 hown1 hg1 _
         have hbw1 : Below w.heap.size w w1 := ((Below.refl _ _).alloc (Nat.le_refl _) _).grown hg1 (by simp) (by simp [Value.ownBlock])))
    go_ret
    simp only [Nat.zero_add, List.nil_append] at hown1
    exact ⟨v1, rfl, ⟨xs, hown1, h1, hb⟩, hbw1⟩

end Go.Proofs.YtkiccfdfbmiooaaDoor
