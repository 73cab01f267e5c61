/-
  size, Great, GreatAll, wide: they answer, whatever they answer.
-/
import Derived.Test.YtkiccfdfbmiooaaDoorRs
namespace Go.Proofs.YtkiccfdfbmiooaaDoor
open Go Go.RowKit

def BlkIs (w : World) (g t : Nat) (cs : Array Value) : Prop := Blk w g t cs
section
variable {w w' : World} {B n : Nat}

/-- size answers at every readable term of fuel n. -/
def SizeOK (n : Nat) : Prop := ∀ (v0 v1 v2 v3 v4 : Value) (most : Int) (w : World), Rd Tryd.prog w w.heap.size n 32 [v0, v1, v2, v3, v4] → Calls Tryd.prog 34 #[.agg #[v0, v1, v2, v3, v4], .int .i64 most] w (IntPost w)
/-- An element of a readable slice of terms, at whatever fuel. -/
theorem Sl.elem {A : Option Addr} {len cap i : Nat} (h : Sl Tryd.prog w B n 32 (.slice A len cap)) (hi : i < len) :
    ∃ a u0 u1 u2 u3 u4, A = some a ∧ a.block < B ∧ (∀ j u, [u0, u1, u2, u3, u4][j]? = some u → w.cell? ((a.add (i * 5)).add j) = some u) ∧ Rd Tryd.prog w B n 32 [u0, u1, u2, u3, u4] := by
  obtain ⟨A', len', cap', e, _, _, _, _, h6⟩ := h
  injection e with e1 e2 e3
  subst e1; subst e2; subst e3
  obtain ⟨a, rfl, g2, cs', g3, g4, g5⟩ := h6 i hi
  rw [cells32] at g3 g4
  obtain ⟨u0, u1, u2, u3, u4, rfl⟩ := list5 g3
  refine ⟨a, u0, u1, u2, u3, u4, rfl, g2, fun j u hu => ?_, g5⟩
  have hj : j < 5 := (List.getElem?_eq_some_iff.1 hu).1
  rw [add_of_add, g4 j hj]
  exact hu

set_option maxRecDepth 100000 in
set_option maxHeartbeats 1600000 in
theorem size_step (ih : SizeOK n) (v0 v1 v2 v3 v4 : Value) (most : Int) (w : World) (h : Sl Tryd.prog w w.heap.size n 32 v4) : Calls Tryd.prog 34 #[.agg #[v0, v1, v2, v3, v4], .int .i64 most] w (IntPost w) := by
  have h0 := h
  obtain ⟨A, len, cap, rfl, hlc, hcm, _, _, _⟩ := h0
  have hlen : len ≤ 9223372036854775807 := Nat.le_trans hlc (by unfold maxLen at hcm; omega)
  clear hlc hcm
  go_enter Tryd.func34, Tryd.ntmps34
  go_upto_region 1 with (fail)
  refine wp_new1 _ _ _ ?_
  intro W hB hsz hb
  obtain ⟨g, hg⟩ : ∃ g, w.heap.size = g := ⟨_, rfl⟩
  have hs1 := (h.below hB).up hB.size
  rw [hg] at hB hsz hb ⊢
  go_wp2_with fail
  go_loopw [5, 6] (fun n i wr => ∃ (z : Int) (k : Nat), n = .int .i64 z ∧ i = .int .i64 k ∧ k ≤ len ∧ Below W.heap.size W wr) (fun _ i _ => len - (intOf i).toNat)
  case atStart => exact ⟨1, 0, rfl, rfl, Nat.zero_le _, Below.refl _ _⟩
  case round =>
    obtain ⟨z, k, rfl, rfl, hk, hbr⟩ := hrel
    have hbk := hb.below hbr hb.lt
    have hc4 := hbk.cell 4
    by_cases hkn : k < len
    · by_cases hz : z < most
      · obtain ⟨a, u0, u1, u2, u3, u4, rfl, ha, hcs, hrd⟩ := ((hs1.below hbr).up hbr.size).elem hkn
        have HC := Lib.hid hcs
        have HR := Lib.hid (ih u0 u1 u2 u3 u4 (wrap64 (most - z)) wr hrd)
        clear hs1 h ih hcs hrd
        go_wp2_with (first
          | ((with_reducible refine wpList_load_a (ty := 32) (x := .tmp 23) (a.add (k * 5)) [u0, u1, u2, u3, u4] _ ?_ ?_ Tryd.underlying32 ?_ ?_ ?_); rfl; exact HC.out; rfl; exact size32)
          | (go_at_call 34; go_must (refine HR.out.mono ?_); rintro e w2 ⟨z2, rfl, hw2⟩))
        go_roundw
        case rel => exact ⟨_, k + 1, rfl, by go_num, by omega, hbr.trans (hw2.mono hbr.size)⟩
        case measure => simp [intOf]; omega
      · clear h ih hs1
        go_wp2
        go_ret
        exact ⟨_, rfl, by rw [hg]; exact hB.trans (hbr.mono (by have := hB.size; omega))⟩
    · clear h ih hs1
      go_wp2
      go_ret
      exact ⟨_, rfl, by rw [hg]; exact hB.trans (hbr.mono (by have := hB.size; omega))⟩

set_option maxRecDepth 100000 in
theorem size_any : ∀ n : Nat, SizeOK (n := n) := by
  intro n
  induction n using Nat.strongRecOn with
  | _ n ih =>
    intro v0 v1 v2 v3 v4 most w h
    rcases n with _ | _ | m
    · exact h.elim
    · exact (h.field (i := 4) (ft := 28) (off := 4) (k := 1) Tryd.underlying32 rfl rfl rfl cells28).elim
    · obtain ⟨_, _, _, _, _, e, hs⟩ := h.term
      simp only [List.cons.injEq, and_true] at e
      obtain ⟨rfl, rfl, rfl, rfl, rfl⟩ := e
      exact size_step (ih m (by omega)) _ _ _ _ _ _ _ hs

set_option maxRecDepth 100000 in
set_option maxHeartbeats 800000 in
theorem great22 (v0 v1 v2 v3 v4 : Value) (w : World) (h : Rd Tryd.prog w w.heap.size n 32 [v0, v1, v2, v3, v4]) : Calls Tryd.prog 22 #[.agg #[v0, v1, v2, v3, v4]] w (BoolPost w) := by
  go_enter Tryd.func22, Tryd.ntmps22
  go_upto_region 1 with (fail)
  refine wp_new1 _ _ _ ?_
  intro W hB hsz hb
  have HR := Lib.hid (size_any n v0 v1 v2 v3 v4 1024 W ((h.below hB _ _ _).up hB.size _ _ _))
  have HB := Lib.hid hb
  clear hb h
  go_wp2_with (first
    | ((with_reducible refine wpList_load_b (ty := 32) (x := .tmp 1) w.heap.size 32 #[v0, v1, v2, v3, v4] _ ?_ ?_ Tryd.underlying32 ?_ ?_); rfl; exact HB.out; exact size32)
    | (go_at_call 34; go_must (refine HR.out.mono ?_); rintro e w2 ⟨z2, rfl, hw2⟩))
  go_ret
  exact ⟨_, rfl, hB.trans (hw2.mono hB.size)⟩

set_option maxRecDepth 100000 in
set_option maxHeartbeats 1600000 in
theorem greatall (v : Value) (w : World) (h : Sl Tryd.prog w w.heap.size n 32 v) : Calls Tryd.prog 23 #[v] w (BoolPost w) := by
  have h0 := h
  obtain ⟨A, len, cap, rfl, hlc, hcm, _, _, _⟩ := h0
  have hlen : len ≤ 9223372036854775807 := Nat.le_trans hlc (by unfold maxLen at hcm; omega)
  clear hlc hcm
  go_enter Tryd.func23, Tryd.ntmps23
  go_wp2_with fail
  go_loopw [3, 4] (fun n i wr => ∃ (z : Int) (k : Nat), n = .int .i64 z ∧ i = .int .i64 k ∧ k ≤ len ∧ Below w.heap.size w wr) (fun _ i _ => len - (intOf i).toNat)
  case atStart => exact ⟨_, 0, rfl, rfl, Nat.zero_le _, Below.refl _ _⟩
  case round =>
    obtain ⟨z, k, rfl, rfl, hk, hbr⟩ := hrel
    by_cases hkn : k < len
    · by_cases hz : z < 4000
      · obtain ⟨a, u0, u1, u2, u3, u4, rfl, ha, hcs, hrd⟩ := ((h.below hbr).up hbr.size).elem hkn
        have HC := Lib.hid hcs
        have HR := Lib.hid (size_any n u0 u1 u2 u3 u4 4000 wr hrd)
        clear h hcs hrd
        go_wp2_with (first
          | ((with_reducible refine wpList_load_a (ty := 32) (x := .tmp 20) (a.add (k * 5)) [u0, u1, u2, u3, u4] _ ?_ ?_ Tryd.underlying32 ?_ ?_ ?_); rfl; exact HC.out; rfl; exact size32)
          | (go_at_call 34; go_must (refine HR.out.mono ?_); rintro e w2 ⟨z2, rfl, hw2⟩))
        go_roundw
        case rel => exact ⟨_, k + 1, rfl, by go_num, by omega, hbr.trans (hw2.mono hbr.size)⟩
        case measure => simp [intOf]; omega
      · clear h
        go_wp2
        go_ret
        exact ⟨_, rfl, hbr⟩
    · clear h
      go_wp2
      go_ret
      exact ⟨_, rfl, hbr⟩

set_option maxRecDepth 100000 in
set_option maxHeartbeats 1600000 in
theorem wide_any (v : Value) (w : World) (h : Sl Tryd.prog w w.heap.size n 32 v) : Calls Tryd.prog 24 #[v] w (BoolPost w) := by
  have h0 := h
  obtain ⟨A, len, cap, rfl, hlc, hcm, _, _, _⟩ := h0
  have hlen : len ≤ 9223372036854775807 := Nat.le_trans hlc (by unfold maxLen at hcm; omega)
  clear hlc hcm
  go_enter Tryd.func24, Tryd.ntmps24
  go_wp2_with fail
  go_loopw [3] (fun i wr => ∃ (k : Nat), i = .int .i64 k ∧ k ≤ len ∧ Below w.heap.size w wr) (fun i _ => len - (intOf i).toNat)
  case atStart => exact ⟨0, rfl, Nat.zero_le _, Below.refl _ _⟩
  case round =>
    obtain ⟨k, rfl, hk, hbr⟩ := hrel
    by_cases hkn : k < len
    · obtain ⟨a, u0, u1, u2, u3, u4, rfl, ha, hcs, hrd⟩ := ((h.below hbr).up hbr.size).elem hkn
      have HC := Lib.hid hcs
      have HR := Lib.hid (great22 u0 u1 u2 u3 u4 wr hrd)
      clear h hcs hrd
      go_wp2_with (first
        | ((with_reducible refine wpList_load_a (ty := 32) (x := .tmp 12) (a.add (k * 5)) [u0, u1, u2, u3, u4] _ ?_ ?_ Tryd.underlying32 ?_ ?_ ?_); rfl; exact HC.out; rfl; exact size32)
        | (go_at_call 22; go_must (refine HR.out.mono ?_); rintro e w2 ⟨b, rfl, hw2⟩; rcases b with _ | _))
      · go_roundw
        case rel => exact ⟨k + 1, by go_num, by omega, hbr.trans (hw2.mono hbr.size)⟩
        case measure => simp [intOf]; omega
      · go_ret
        exact ⟨_, rfl, hbr.trans (hw2.mono hbr.size)⟩
    · clear h
      go_wp2
      go_ret
      exact ⟨_, rfl, hbr⟩
end
end Go.Proofs.YtkiccfdfbmiooaaDoor
