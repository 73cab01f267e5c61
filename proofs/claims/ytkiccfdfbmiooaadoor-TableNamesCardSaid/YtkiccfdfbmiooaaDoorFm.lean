/-
  proc.frames at one frame.
-/
import Derived.Test.YtkiccfdfbmiooaaDoorFr
import Derived.LoopN
import Derived.Deep.MidRow
namespace Go.Proofs.YtkiccfdfbmiooaaDoor
open Go Go.RowKit

theorem slice_nil_eq (w : World) (a : Option Addr) (n c n' c' : Nat) : (binOp .eql 42 (.slice a n c) (.slice none n' c')).run Tryd.prog w = .ok (.bool a.isNone) w := Lib.run_eql_slice_nil w _ _ a n c n' c' Tryd.underlying42
theorem Stk.form {w : World} {B : Nat} {v : Value} (h : Stk w B v) : ∃ g c, v = .slice (some ⟨g, 0, none⟩) 1 c ∧ B ≤ g ∧ g < w.heap.size := by
  obtain ⟨cs, h1, h2⟩ := h
  obtain ⟨g, cap, rfl, hb, hlt⟩ := h1.form (by omega)
  exact ⟨g, cap, rfl, hb, hlt⟩

def FramesPost (w : World) (e : Ending) (w' : World) : Prop := ∃ v, e = .returned v ∧ Stk w' w.heap.size v ∧ Below w.heap.size w w'

set_option maxRecDepth 100000 in
set_option maxHeartbeats 800000 in
theorem frames_one (g c : Nat) (cs : Array Value) (w : World) (hr : w.rangeAt g 0 cs.toList) (h : FrOK w w.heap.size cs) : Calls Tryd.prog 25 #[.slice (some ⟨g, 0, none⟩) 1 c] w (FramesPost w) := by
  have hsz := h.1
  have hi41 : (Tryd.prog.info? 41).map (·.size) = some cs.toList.length := by rw [Array.length_toList, hsz]; exact size41
  have HI := Lib.hid hi41
  clear hi41 hsz
  have q := slice_nil_eq
  go_enter Tryd.func25, Tryd.ntmps25
  go_wp2_with fail
  refine wp_loop_rounds 2 ?_
  rw [rounds_succ]
  go_wp2_with (first
    | (refine wpList_load_mid rfl 41 (.tmp 14) rfl g 0 rfl cs.toList _ hr Tryd.underlying41 rfl HI.out ?_)
    | (go_at_call 35; go_must (refine (push_nil cs w h).mono ?_); rintro e w1 ⟨v, rfl, hs1, hw1⟩; obtain ⟨g1, c1, rfl, hg1, hl1⟩ := hs1.form))
  rw [rounds_succ]
  go_wp2_with fail
  go_ret
  exact ⟨_, rfl, hs1, hw1⟩

theorem Stk.reads {w : World} {B : Nat} {v : Value} (h : Stk w B v) : ∃ g c cs, v = .slice (some ⟨g, 0, none⟩) 1 c ∧ w.rangeAt g 0 cs.toList ∧ FrOK w w.heap.size cs := by
  obtain ⟨cs, h1, h2⟩ := h
  obtain ⟨g, cap, rfl, hb, hlt⟩ := h1.form (by omega)
  refine ⟨g, cap, cs, rfl, fun j u hu => ?_, h2.ok⟩
  have := h1.cells (g := g) rfl j u hu
  rwa [Addr.add_mid] at this
theorem frames_stk (v : Value) (w : World) {B : Nat} (h : Stk w B v) : Calls Tryd.prog 25 #[v] w (FramesPost w) := by
  obtain ⟨g, c, cs, rfl, h1, h2⟩ := h.reads
  exact frames_one g c cs w h1 h2
section
variable {w w' : World} {B : Nat} {v : Value}
theorem Stk.below {C : Nat} (h : Stk w B v) (hb : Below C w w') (hC : w.heap.size ≤ C) : Stk w' B v := by
  obtain ⟨cs, h1, h2⟩ := h
  refine ⟨cs, ⟨h1.1, ?_⟩, h2.below hb hC⟩
  rcases h1.2 with h1 | ⟨g, cap, cur, ee, hg, hh, h⟩
  · exact .inl h1
  · exact .inr ⟨g, cap, cur, ee, hg, (hb.block g (by have := (Array.getElem?_eq_some_iff.1 hh).1; omega)).trans hh, h⟩
theorem Stk.mono {B' : Nat} (h : Stk w B v) (hB : B' ≤ B) : Stk w B' v := by
  obtain ⟨cs, h1, h2⟩ := h
  refine ⟨cs, ⟨h1.1, ?_⟩, h2.mono hB⟩
  rcases h1.2 with h1 | ⟨g, cap, cur, ee, hg, hh, h⟩
  · exact .inl h1
  · exact .inr ⟨g, cap, cur, ee, by omega, hh, h⟩
theorem Stk.kept {g t : Nat} {ds : Array Value} (h : Stk w B v) (hg : Blk w g t ds) (ht : 114 < t ∨ t = 46 ∨ t = 67) (hw : w.grownBy w' (some g)) : Stk w' B v := by
  obtain ⟨cs, h1, h2⟩ := h
  exact ⟨cs, h1.kept hw (.inr (own_blk_ne h1 hg (show (41 : Nat) ≠ t by omega))), h2.kept hg ht hw⟩
theorem Stk.keptMap {g : Nat} {es : Array MapEntry} {cl : Nat} (h : Stk w B v) (hg : w.heap[g]? = some (.map es cl)) (hw : w.grownBy w' (some g)) : Stk w' B v := by
  have ne : ∀ {e size n : Nat} {v : Value} {xs : List Value}, w.ownsRow B e size v n xs → v.ownBlock ≠ some g := by
    intro e size n v xs h e1
    rcases h.2 with ⟨rfl, _⟩ | ⟨g', cap, cur, rfl, _, hh, _⟩
    · simp [Value.ownBlock] at e1
    · simp [Value.ownBlock] at e1
      subst e1
      rw [hg] at hh
      cases hh
  have one : ∀ {e sz bytes n : Nat} {v : Value}, SlOwn w B e sz bytes v n → SlOwn w' B e sz bytes v n := by
    rintro e sz bytes n v ⟨xs, h1, h2, h3⟩
    exact ⟨xs, h1.kept hw (.inr (ne h1)), h2, h3⟩
  obtain ⟨cs, h1, h0, ho, h3, h4, h5, h6, h28, h33, h34⟩ := h
  exact ⟨cs, h1.kept hw (.inr (ne h1)), h0, ho, one h3, one h4, one h5, one h6, one h28, one h33, one h34⟩
end
end Go.Proofs.YtkiccfdfbmiooaaDoor
