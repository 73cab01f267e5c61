/-
  Great of a process, of acts: they answer.
-/
import Derived.Test.YtkiccfdfbmiooaaDoorGf
namespace Go.Proofs.YtkiccfdfbmiooaaDoor
open Go Go.RowKit

section
variable {w w' : World} {B n : Nat}
/-- An element of a readable slice. -/
theorem Sl.elemG {P : Program} {e sz : Nat} {A : Option Addr} {len cap i : Nat} (h : Sl P w B n e (.slice A len cap)) (hc : P.cellsOf e = sz) (hi : i < len) :
    ∃ a cs', A = some a ∧ a.block < B ∧ cs'.length = sz ∧ (∀ (j : Nat) (u : Value), cs'[j]? = some u → w.cell? ((a.add (i * sz)).add j) = some u) ∧ Rd P w B n e cs' := by
  obtain ⟨A', len', cap', e1, _, _, _, _, h6⟩ := h
  injection e1 with e1 e2 e3
  subst e1; subst e2; subst e3
  obtain ⟨a, rfl, g2, cs', g3, g4, g5⟩ := h6 i hi
  rw [hc] at g3 g4
  refine ⟨a, cs', rfl, g2, g3, fun j u hu => ?_, g5⟩
  have hj : j < sz := by rw [← g3]; exact (List.getElem?_eq_some_iff.1 hu).1
  rw [add_of_add, g4 j hj]
  exact hu
theorem Sl.len_le {P : Program} {e : Nat} {A : Option Addr} {len cap : Nat} (h : Sl P w B n e (.slice A len cap)) : len ≤ 9223372036854775807 := by
  obtain ⟨A', len', cap', e1, h1, h2, _⟩ := h
  injection e1 with e1 e2 e3
  unfold maxLen at h2
  omega
theorem list6 {cs : List Value} (h : cs.length = 6) : ∃ v0 v1 v2 v3 v4 v5, cs = [v0, v1, v2, v3, v4, v5] := by
  match cs, h with
  | [v0, v1, v2, v3, v4, v5], _ => exact ⟨v0, v1, v2, v3, v4, v5, rfl⟩
theorem list9 {cs : List Value} (h : cs.length = 9) : ∃ v0 v1 v2 v3 v4 v5 v6 v7 v8, cs = [v0, v1, v2, v3, v4, v5, v6, v7, v8] := by
  match cs, h with
  | [v0, v1, v2, v3, v4, v5, v6, v7, v8], _ => exact ⟨v0, v1, v2, v3, v4, v5, v6, v7, v8, rfl⟩
/-- A readable process. -/
structure PrRd (w : World) (B n : Nat) (v2 v3 v7 v8 : Value) : Prop where
  s2 : Sl Tryd.prog w B n 41 v2
  s3 : Sl Tryd.prog w B n 59 v3
  s7 : Sl Tryd.prog w B n 3 v7
  s8 : Sl Tryd.prog w B n 83 v8
set_option maxRecDepth 100000 in
theorem Rd.proc {cs : List Value} (h : Rd Tryd.prog w B (n + 2) 46 cs) : ∃ v0 v1 v2 v3 v4 v5 v6 v7 v8, cs = [v0, v1, v2, v3, v4, v5, v6, v7, v8] ∧ PrRd w B n v2 v3 v7 v8 := by
  obtain ⟨v0, v1, v2, v3, v4, v5, v6, v7, v8, rfl⟩ := list9 (h.len Tryd.underlying46 cells46)
  obtain ⟨_, e2, h2⟩ := (h.field (i := 2) (ft := 42) (off := 2) (k := 1) Tryd.underlying46 rfl rfl rfl cells42).slice Tryd.underlying42
  obtain ⟨_, e3, h3⟩ := (h.field (i := 3) (ft := 43) (off := 3) (k := 1) Tryd.underlying46 rfl rfl rfl cells43).slice Tryd.underlying43
  obtain ⟨_, e7, h7⟩ := (h.field (i := 7) (ft := 37) (off := 7) (k := 1) Tryd.underlying46 rfl rfl rfl cells37).slice Tryd.underlying37
  obtain ⟨_, e8, h8⟩ := (h.field (i := 8) (ft := 44) (off := 8) (k := 1) Tryd.underlying46 rfl rfl rfl cells44).slice Tryd.underlying44
  simp only [List.drop_succ_cons, List.drop_zero, List.take_succ_cons, List.take_zero, List.cons.injEq, and_true] at e2 e3 e7 e8
  subst e2; subst e3; subst e7; subst e8
  exact ⟨_, _, _, _, _, _, _, _, _, rfl, h2, h3, h7, h8⟩
set_option maxRecDepth 100000 in
theorem Rd.item {cs : List Value} (h : Rd Tryd.prog w B n 59 cs) : ∃ v0 v1 v2 v3 v4 v5, cs = [v0, v1, v2, v3, v4, v5] ∧ Rd Tryd.prog w B n 32 [v0, v1, v2, v3, v4] := by
  have h1 := h.more (Nat.le_succ n)
  obtain ⟨v0, v1, v2, v3, v4, v5, rfl⟩ := list6 (h1.len Tryd.underlying59 cells59)
  exact ⟨_, _, _, _, _, _, rfl, h1.field (i := 0) (ft := 32) (off := 0) (k := 5) Tryd.underlying59 rfl rfl rfl cells32⟩
theorem size41l : (Tryd.prog.info? 41).map (·.size) = some 35 := by kernel_rfl

set_option maxRecDepth 100000 in
set_option maxHeartbeats 3200000 in
theorem greatp (v0 v1 v2 v3 v4 v5 v6 v7 v8 : Value) (w : World) (h : PrRd w w.heap.size n v2 v3 v7 v8) : Calls Tryd.prog 16 #[.agg #[v0, v1, v2, v3, v4, v5, v6, v7, v8]] w (BoolPost w) := by
  obtain ⟨S2, S3, S7, S8⟩ := h
  have S2' := S2; have S3' := S3
  obtain ⟨A2, n2, c2, rfl, _⟩ := S2'
  obtain ⟨A3, n3, c3, rfl, _⟩ := S3'
  obtain ⟨A7, n7, c7, rfl, _⟩ := S7
  obtain ⟨A8, n8, c8, rfl, _⟩ := S8
  have hn2 := S2.len_le; have hn3 := S3.len_le
  have H2 := Lib.hid S2; have H3 := Lib.hid S3
  clear S2 S3
  go_enter Tryd.func16, Tryd.ntmps16
  go_upto_region 1 with (fail)
  refine wp_new1 _ _ _ ?_
  intro W hcur hsz hb
  obtain ⟨g, hg⟩ : ∃ g, w.heap.size = g := ⟨_, rfl⟩
  have hgl : g < W.heap.size := by omega
  rw [hg] at hb
  have k2 := hb.cell 2; have k3 := hb.cell 3; have k7 := hb.cell 7; have k8 := hb.cell 8
  have HB := Lib.hid hb
  clear hb
  by_cases q2 : (100 : Int) < n2
  · (go_wp2; go_ret; exact ⟨_, rfl, hcur⟩)
  by_cases q3 : (300 : Int) < n3
  · (go_wp2; go_ret; exact ⟨_, rfl, hcur⟩)
  by_cases q7 : (300 : Int) < n7
  · (go_wp2; go_ret; exact ⟨_, rfl, hcur⟩)
  by_cases q8 : (300 : Int) < n8
  · (go_wp2; go_ret; exact ⟨_, rfl, hcur⟩)
  go_wp2_with fail
  clear k2 k3 k7 k8
  go_loopw [3] (fun i wr => ∃ (k : Nat), i = .int .i64 k ∧ k ≤ n2 ∧ Below W.heap.size W wr) (fun i _ => n2 - (intOf i).toNat)
  case atStart => exact ⟨0, rfl, Nat.zero_le _, Below.refl _ _⟩
  case round =>
    obtain ⟨k, rfl, hk, hbr⟩ := hrel
    have hbk := HB.out.below hbr hgl
    have k2 := hbk.cell 2
    have hcr := hcur.trans (hbr.mono hcur.size)
    by_cases hkn : k < n2
    · obtain ⟨a, cs', rfl, ha, hl', hcs, hrd⟩ := ((H2.out.below hcr).up hcr.size).elemG cells41 hkn
      have HC := Lib.hid hcs
      have HL := Lib.hid (show (Tryd.prog.info? 41).map (·.size) = some cs'.length by rw [hl']; exact size41l)
      have HR := Lib.hid (greatf cs' wr (Rd.frame (hrd.more (Nat.le_add_right n 3))))
      clear hcs hrd hbk
      go_wp2_with (first
        | ((with_reducible refine wpList_load_a (ty := 41) (x := .tmp 37) (a.add (k * 35)) cs' _ ?_ ?_ Tryd.underlying41 ?_ ?_ ?_); rfl; exact HC.out; rfl; exact HL.out)
        | (go_at_call 17; go_must (refine HR.out.mono ?_); rintro e w2 ⟨b, rfl, hw2⟩; rcases b with _ | _))
      · go_roundw
        case rel => exact ⟨k + 1, by go_num, by omega, hbr.trans (hw2.mono hbr.size)⟩
        case measure => simp [intOf]; omega
      · go_ret
        exact ⟨_, rfl, hcr.trans (hw2.mono hcr.size)⟩
    · clear hbk
      go_wp2_with fail
      clear k2
      go_loopw [4] (fun i ws => ∃ (j : Nat), i = .int .i64 j ∧ j ≤ n3 ∧ Below W.heap.size W ws) (fun i _ => n3 - (intOf i).toNat)
      case atStart => exact ⟨0, rfl, Nat.zero_le _, hbr⟩
      case round =>
        obtain ⟨j, rfl, hj, hbs⟩ := hrel
        have hbk := HB.out.below hbs hgl
        have k3 := hbk.cell 3
        have hcs2 := hcur.trans (hbs.mono hcur.size)
        by_cases hjn : j < n3
        · obtain ⟨a, cs', rfl, ha, hl', hcs, hrd⟩ := ((H3.out.below hcs2).up hcs2.size).elemG cells59 hjn
          obtain ⟨u0, u1, u2, u3, u4, u5, rfl, hrt⟩ := hrd.item
          have HC := Lib.hid (show ∀ (i : Nat) (u : Value), [u0, u1, u2, u3, u4][i]? = some u → _ from fun i u hu => hcs i u (by have hi : i < 5 := (List.getElem?_eq_some_iff.1 hu).1; rw [show [u0, u1, u2, u3, u4, u5] = [u0, u1, u2, u3, u4] ++ [u5] from rfl, List.getElem?_append_left hi]; exact hu))
          have HR := Lib.hid (great22 u0 u1 u2 u3 u4 _ hrt)
          clear hcs hrd hrt hbk
          go_wp2_with (first
            | ((with_reducible refine wpList_load_a (ty := 32) (x := .tmp 51) (a.add (j * 6)) [u0, u1, u2, u3, u4] _ ?_ ?_ Tryd.underlying32 ?_ ?_ ?_); rfl; exact HC.out; rfl; exact size32)
            | (go_at_call 22; go_must (refine HR.out.mono ?_); rintro e w2 ⟨b, rfl, hw2⟩; rcases b with _ | _))
          · go_roundw
            case rel => exact ⟨j + 1, by go_num, by omega, hbs.trans (hw2.mono hbs.size)⟩
            case measure => simp [intOf]; omega
          · go_ret
            exact ⟨_, rfl, hcs2.trans (hw2.mono hcs2.size)⟩
        · clear hbk
          go_wp2
          go_ret
          exact ⟨_, rfl, hcs2⟩
end
end Go.Proofs.YtkiccfdfbmiooaaDoor
