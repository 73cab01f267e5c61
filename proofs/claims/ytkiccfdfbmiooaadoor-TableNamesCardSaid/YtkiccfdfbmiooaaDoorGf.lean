/-
  Great of a frame, of a process, of acts: they answer.
-/
import Derived.Test.YtkiccfdfbmiooaaDoorRf
namespace Go.Proofs.YtkiccfdfbmiooaaDoor
open Go Go.RowKit

section
variable {w w' : World} {B n : Nat}
set_option maxRecDepth 100000 in
set_option maxHeartbeats 3200000 in
theorem greatf (cs : List Value) (w : World) (h : FrRd w w.heap.size n cs) : Calls Tryd.prog 17 #[.agg cs.toArray] w (BoolPost w) := by
  have hlen := h.len
  obtain ⟨v0, v1, v2, v3, v4, v5, v6, v7, v8, v9, v10, v11, v12, v13, v14, v15, v16, v17, v18, v19, v20, v21, v22, v23, v24, v25, v26, v27, v28, v29, v30, v31, v32, v33, v34, hcs⟩ := cells35 cs.toArray (by simpa using hlen)
  have hcs' : cs = [v0, v1, v2, v3, v4, v5, v6, v7, v8, v9, v10, v11, v12, v13, v14, v15, v16, v17, v18, v19, v20, v21, v22, v23, v24, v25, v26, v27, v28, v29, v30, v31, v32, v33, v34] := by simpa using congrArg Array.toList hcs
  subst hcs'
  obtain ⟨_, e3, S3⟩ := h.s3; obtain ⟨_, e4, S4⟩ := h.s4; obtain ⟨_, e5, S5⟩ := h.s5; obtain ⟨_, e6, S6⟩ := h.s6
  have RT : Rd Tryd.prog w w.heap.size (n + 1) 32 [v13, v14, v15, v16, v17] := h.t
  have RU : Rd Tryd.prog w w.heap.size (n + 1) 32 [v18, v19, v20, v21, v22] := h.u
  have RV : Rd Tryd.prog w w.heap.size (n + 1) 32 [v23, v24, v25, v26, v27] := h.v
  simp only [List.drop_succ_cons, List.drop_zero, List.take_succ_cons, List.take_zero, List.cons.injEq, and_true] at e3 e4 e5 e6
  subst e3; subst e4; subst e5; subst e6
  have S3' := S3; have S5' := S5
  obtain ⟨A3, n3, c3, rfl, _⟩ := S3'
  obtain ⟨A4, n4, c4, rfl, _⟩ := S4
  obtain ⟨A5, n5, c5, rfl, _⟩ := S5'
  obtain ⟨A6, n6, c6, rfl, _⟩ := S6
  have H3 := Lib.hid S3; have H5 := Lib.hid S5; have HT := Lib.hid RT; have HU := Lib.hid RU; have HV := Lib.hid RV
  clear S3 S5 RT RU RV h hlen hcs
  go_enter Tryd.func17, Tryd.ntmps17
  go_upto_region 1 with (fail)
  refine wp_new1 _ _ _ ?_
  intro W hcur hsz hb
  obtain ⟨g, hg⟩ : ∃ g, w.heap.size = g := ⟨_, rfl⟩
  have hgl : g < W.heap.size := by omega
  rw [hg] at hb
  have k3 := hb.cell 3; have k4 := hb.cell 4; have k5 := hb.cell 5; have k6 := hb.cell 6
  have HB := Lib.hid hb
  clear hb
  by_cases q3 : (100 : Int) < n3
  · (go_wp2; go_ret; exact ⟨_, rfl, hcur⟩)
  by_cases q4 : (100 : Int) < n4
  · (go_wp2; go_ret; exact ⟨_, rfl, hcur⟩)
  by_cases q6 : (100 : Int) < n6
  · (go_wp2; go_ret; exact ⟨_, rfl, hcur⟩)
  by_cases q5 : (2000 : Int) < n5
  · (go_wp2; go_ret; exact ⟨_, rfl, hcur⟩)
  go_wp2_with (first
    | (go_at_call 23; go_must (refine (greatall _ _ ((H3.out.below hcur).up hcur.size)).mono ?_); rintro e w1 ⟨b, rfl, hw1⟩; have B1 := Lib.hid (HB.out.below hw1 hgl); have hc1 := hcur.trans (hw1.mono hcur.size); have hl1 := Nat.lt_of_lt_of_le hgl hw1.size; have k5 := B1.out.cell 5; rcases b with _ | _)
    | (go_at_call 24; go_must (refine (wide_any _ _ ((H5.out.below hc1).up hc1.size)).mono ?_); rintro e w2 ⟨b, rfl, hw2⟩; have B2 := Lib.hid (B1.out.below hw2 hl1); have hc2 := hc1.trans (hw2.mono hc1.size); have hl2 := Nat.lt_of_lt_of_le hl1 hw2.size; have k13 := B2.out.cell 13; have k14 := B2.out.cell 14; have k15 := B2.out.cell 15; have k16 := B2.out.cell 16; have k17 := B2.out.cell 17; rcases b with _ | _)
    | (go_at_call 22; go_must (first | ((refine (great22 v23 v24 v25 v26 v27 _ ((HV.out.below hc4 _ _ _).up hc4.size _ _ _)).mono ?_); rintro e w5 ⟨b, rfl, hw5⟩; have hc5 := hc4.trans (hw5.mono hc4.size)) | ((refine (great22 v18 v19 v20 v21 v22 _ ((HU.out.below hc3 _ _ _).up hc3.size _ _ _)).mono ?_); rintro e w4 ⟨b, rfl, hw4⟩; have B4 := Lib.hid (B3.out.below hw4 hl3); have hc4 := hc3.trans (hw4.mono hc3.size); have hl4 := Nat.lt_of_lt_of_le hl3 hw4.size; have k23 := B4.out.cell 23; have k24 := B4.out.cell 24; have k25 := B4.out.cell 25; have k26 := B4.out.cell 26; have k27 := B4.out.cell 27; rcases b with _ | _) | ((refine (great22 v13 v14 v15 v16 v17 _ ((HT.out.below hc2 _ _ _).up hc2.size _ _ _)).mono ?_); rintro e w3 ⟨b, rfl, hw3⟩; have B3 := Lib.hid (B2.out.below hw3 hl2); have hc3 := hc2.trans (hw3.mono hc2.size); have hl3 := Nat.lt_of_lt_of_le hl2 hw3.size; have k18 := B3.out.cell 18; have k19 := B3.out.cell 19; have k20 := B3.out.cell 20; have k21 := B3.out.cell 21; have k22 := B3.out.cell 22; rcases b with _ | _))))
  all_goals (go_ret; first | exact ⟨_, rfl, hc5⟩ | exact ⟨_, rfl, hc4⟩ | exact ⟨_, rfl, hc3⟩ | exact ⟨_, rfl, hc2⟩ | exact ⟨_, rfl, hc1⟩)
end
end Go.Proofs.YtkiccfdfbmiooaaDoor

