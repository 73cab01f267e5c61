/-
  TableOnce: the walk.
-/
import Derived.Test.YtkiccfdfbmiooaaDoorLo
namespace Go.Proofs.YtkiccfdfbmiooaaDoor
open Go Go.RowKit
attribute [local irreducible] Rd

/-- What holds between two acts. -/
def Inv (wb : World) (len T bp bn : Nat) (top i : Value) (wr : World) : Prop :=
  ∃ (k last c : Nat) (D1 D2 : DataW Unit) (N : Int → ByteArray), top = .int .i64 last ∧ i = .int .i64 k ∧ k ≤ len ∧ last ≤ k ∧ c ≤ k ∧ TabOK wr wb.heap.size T bp bn last c D1 D2 N ∧ Below wb.heap.size wb wr
abbrev ZK : Array Value := #[.int .i8 1, .int .i64 0, .int .i64 0, .slice none 0 0, .slice none 0 0, .slice none 0 0, .slice none 0 0, .int .i64 0, .int .i8 0, .int .i64 0, .int .i64 0, .int .i64 0, .int .i64 0, .int .i8 0, .int .i64 0, .string ⟨#[]⟩, .string ⟨#[]⟩, .slice none 0 0, .int .i8 0, .int .i64 0, .string ⟨#[]⟩, .string ⟨#[]⟩, .slice none 0 0, .int .i8 0, .int .i64 0, .string ⟨#[]⟩, .string ⟨#[]⟩, .slice none 0 0, .slice none 0 0, .int .i8 0, .int .i64 0, .int .i64 0, .slice none 0 0, .slice none 0 0, .slice none 0 0]
theorem zk_one : ∀ u ∈ ZK.toList, u.oneCell' = true := by
  have h : ZK.all (·.oneCell') = true := by simp [Value.oneCell']
  rw [← List.all_eq_true]
  simpa using h
section
variable {w w' : World} {B T bp bn last c : Nat} {D1 D2 : DataW Unit} {N : Int → ByteArray}
/-- Name, whatever it answers. -/
def NameAll (w : World) (B T bp bn last c : Nat) (D1 : DataW Unit) (pid : Int) (s : ByteArray) (e : Ending) (w' : World) : Prop :=
  ∃ (ec : Int) (c' : Nat) (D2' : DataW Unit) (N' : Int → ByteArray), e = .returned (.int .i64 ec) ∧ TabOK w' B T bp bn last c' D1 D2' N' ∧ Below B w w' ∧ c' ≤ c + 1 ∧
    ((ec = 0 ∧ Maps.has D2' (keyS s) = true ∧ D2'.atKey (keyS s) (.lit (.int .i64 0)) = .lit (.int .i64 pid)) ∨ ec = 2 ∨ ec = 4 ∨ ec = 91)
theorem name_all (h : TabOK w B T bp bn last c D1 D2 N) (hB : B ≤ w.heap.size) (hL : Letters w) (hc : c < maxLen) {pid : Int} {s : ByteArray} (hw : (Lit.int .i64 pid).wf = true) (hs : s.size ≤ 140737488351232) :
    Calls Tryd.prog 12 #[.pointer (some ⟨T, 0, none⟩), .int .i64 pid, .string s] w (NameAll w B T bp bn last c D1 pid s) := by
  have same : ∀ (ec : Int) (e : Ending) (w' : World), Ret w (.int .i64 ec) e w' → (ec = 2 ∨ ec = 4 ∨ ec = 91) → NameAll w B T bp bn last c D1 pid s e w' := by
    rintro ec e w' ⟨rfl, hb⟩ hec
    exact ⟨ec, c, D2, N, rfl, h.below hb (Nat.le_refl _), hb.mono hB, Nat.le_succ c, .inr hec⟩
  cases hp : Maps.has D1 (keyI pid) with
  | false => exact (name_no h hw hs hp).mono fun e w' hr => same 4 e w' hr (.inr (.inl rfl))
  | true =>
    cases hm : mayB s.data.toList with
    | false => exact (name_bad h hL hw hs hp hm).mono fun e w' hr => same 2 e w' hr (.inl rfl)
    | true =>
      by_cases hz : (N pid).size = 0
      · cases ht : Maps.has D2 (keyS s) with
        | true => exact (name_twice h hL hw hs hp hm hz ht).mono fun e w' hr => same 91 e w' hr (.inr (.inr rfl))
        | false =>
          refine (name_ok h hB hL hc hw hs hp hm hz ht).mono ?_
          rintro e w' ⟨rfl, h1, h2⟩
          exact ⟨0, c + 1, _, _, rfl, h1, h2, Nat.le_refl _, .inl ⟨rfl, Maps.has_put_same h.m2.isMap (isK_S s) _, Maps.atKey_put_same h.m2.isMap (isK_S s) _ _⟩⟩
      · exact (name_had h hL hw hs hp hm hz).mono fun e w' hr => same 2 e w' hr (.inl rfl)
theorem TabOK.wfOf (h : TabOK w B T bp bn last c D1 D2 N) (hl : last ≤ 1000000) {n : Int} (hp : Maps.has D1 (keyI n) = true) : (Lit.int .i64 n).wf = true := by
  obtain ⟨h1, h2, _⟩ := h.ps n hp
  exact WalkArith.wf_i64 (by omega)
theorem TabOK.no0 (h : TabOK w B T bp bn last c D1 D2 N) : Maps.has D1 (keyI 0) = false := by
  cases e : Maps.has D1 (keyI 0) with
  | false => rfl
  | true => have := (h.ps 0 e).1; omega
end
theorem some_ne {a b : Nat} (h : a < b) : some a ≠ some b := fun e => absurd (Option.some.inj e) (Nat.ne_of_lt h)
set_option maxRecDepth 100000 in
set_option maxHeartbeats 3200000 in
theorem once_walk (n : Nat) (A : Option Addr) (len cap : Nat) (w : World) (h : Sl Tryd.prog w w.heap.size n 48 (.slice A len cap)) (hL : Letters w) : Calls Tryd.prog 3 #[.slice A len cap] w (IsPost w true) := by
  have hlt := hL.lt
  have H := Lib.hid h
  clear h
  go_enter Tryd.func3, Tryd.ntmps3
  go_wp2_with (first
    | (go_at_call 5; go_must (refine (great5 A len cap w H.out).mono ?_); rintro e w1 ⟨b, rfl, hb1, hw1⟩; rcases b with _ | _)
    | (go_at_call 6; go_must (refine (wakes_any _ (hL.below hw1 hlt)).mono ?_); rintro e w2 ⟨rfl, hw2⟩)
    | (go_at_call 7; go_must (refine (new_tab w1).mono ?_); rintro e w2 ⟨T, bp, bn, rfl, ht, hw2⟩))
  · replace hb1 := hb1 trivial
    go_loopw [4, 5] (fun top i wr => Inv w1 len T bp bn top i wr) (fun _ i _ => len - (intOf i).toNat)
    case atStart => exact ⟨0, 0, 0, _, _, _, rfl, rfl, Nat.zero_le _, Nat.le_refl _, Nat.le_refl _, ht, hw2⟩
    case round =>
      obtain ⟨k, last, c, D1, D2, N, rfl, rfl, hk, hlk, hck, hT, hBr⟩ := hrel
      clear ht hw2
      have hLr : Letters wr := hL.below (hw1.trans (hBr.mono hw1.size)) hlt
      have hB1 : w1.heap.size ≤ wr.heap.size := hBr.size
      by_cases hkn : k < len
      · obtain ⟨a, d, pid, parent, s, F, rfl, hact⟩ := ((H.out.below (hw1.trans (hBr.mono hw1.size))).up hw1.size).actAt hkn
        have HA := Lib.hid hact
        have HT := Lib.hid hT
        have c0 := hact.c0
        clear hact hT
        go_upto_region 18 with (fail)
        by_cases d0 : d = 0
        · subst d0
          as_aux_lemma =>
            go_upto_region 19 with (fail)
            refine wp_region_K (fun w' => w'.cell? ⟨(a.add (k * 48)).block, (a.add (k * 48)).off + 2, none⟩ = some (.int .i64 parent) ∧ ∀ (j : Nat) (u : Value), F[j]? = some u → w'.cell? (((a.add (k * 48)).add 4).add j) = some u) 16 (by kernel_rfl) ⟨HA.out.c2, HA.out.f⟩ (fun hS => ?_)
            refine wpAnyK_take (i := 0) (dst := some 97) (v := ?_) rfl rfl (by kernel_rfl) (by kernel_rfl) (fun _ _ _ h => h) (Or.inl ⟨by rfl, ?_⟩) (by assumption) ?_
            rotate_left
            · (intro wS hS; (try dsimp only at hS); go_simp; try rfl)
            try simp only [Act.put, List.setIfInBounds_toArray, List.set_cons_zero, List.set_cons_succ]
            refine wpAnyK_take (i := 1) (dst := some 98) (v := ?_) rfl rfl (by kernel_rfl) (by kernel_rfl) (fun _ _ _ h => h) (Or.inl ⟨by rfl, ?_⟩) (by assumption) ?_
            rotate_left
            · (intro wS hS; (try dsimp only at hS); go_simp; try rfl)
            try simp only [Act.put, List.setIfInBounds_toArray, List.set_cons_zero, List.set_cons_succ]
            refine wpAnyK_take (i := 2) (dst := some 99) (v := ?_) rfl rfl (by kernel_rfl) (by kernel_rfl) (fun _ _ _ h => h) (Or.inl ⟨by rfl, ?_⟩) (by assumption) ?_
            rotate_left
            · (intro wS hS; (try dsimp only at hS); go_simp; try rfl)
            try simp only [Act.put, List.setIfInBounds_toArray, List.set_cons_zero, List.set_cons_succ]
            refine wpAnyK_take (i := 3) (dst := some 100) (v := ?_) rfl rfl (by kernel_rfl) (by kernel_rfl) (fun _ _ _ h => h) (Or.inl ⟨by rfl, ?_⟩) (by assumption) ?_
            rotate_left
            · (intro wS hS; (try dsimp only at hS); go_simp; try rfl)
            try simp only [Act.put, List.setIfInBounds_toArray, List.set_cons_zero, List.set_cons_succ]
            refine wpAnyK_take (i := 4) (dst := some 101) (v := ?_) rfl rfl (by kernel_rfl) (by kernel_rfl) (fun _ _ _ h => h) (Or.inl ⟨by rfl, ?_⟩) (by assumption) ?_
            rotate_left
            · (intro wS hS; (try dsimp only at hS); go_simp; try rfl)
            try simp only [Act.put, List.setIfInBounds_toArray, List.set_cons_zero, List.set_cons_succ]
            refine wpAnyK_take (i := 5) (dst := some 102) (v := ?_) rfl rfl (by kernel_rfl) (by kernel_rfl) (fun _ _ _ h => h) (Or.inl ⟨by rfl, ?_⟩) (by assumption) ?_
            rotate_left
            · (intro wS hS; (try dsimp only at hS); go_simp; try rfl)
            try simp only [Act.put, List.setIfInBounds_toArray, List.set_cons_zero, List.set_cons_succ]
            refine wpAnyK_take (i := 6) (dst := some 103) (v := ?_) rfl rfl (by kernel_rfl) (by kernel_rfl) (fun _ _ _ h => h) (Or.inl ⟨by rfl, ?_⟩) (by assumption) ?_
            rotate_left
            · (intro wS hS; (try dsimp only at hS); go_simp; try rfl)
            try simp only [Act.put, List.setIfInBounds_toArray, List.set_cons_zero, List.set_cons_succ]
            refine wpAnyK_take (i := 7) (dst := some 104) (v := ?_) rfl rfl (by kernel_rfl) (by kernel_rfl) (fun _ _ _ h => h) (Or.inl ⟨by rfl, ?_⟩) (by assumption) ?_
            rotate_left
            · (intro wS hS; (try dsimp only at hS); go_simp; try rfl)
            try simp only [Act.put, List.setIfInBounds_toArray, List.set_cons_zero, List.set_cons_succ]
            refine wpAnyK_take (i := 8) (dst := some 105) (v := ?_) rfl rfl (by kernel_rfl) (by kernel_rfl) (fun _ _ _ h => h) (Or.inl ⟨by rfl, ?_⟩) (by assumption) ?_
            rotate_left
            · (intro wS hS; (try dsimp only at hS); go_simp; try rfl)
            try simp only [Act.put, List.setIfInBounds_toArray, List.set_cons_zero, List.set_cons_succ]
            refine wpAnyK_take (i := 9) (dst := some 106) (v := ?_) rfl rfl (by kernel_rfl) (by kernel_rfl) (fun _ _ _ h => h) (Or.inl ⟨by rfl, ?_⟩) (by assumption) ?_
            rotate_left
            · (intro wS hS; (try dsimp only at hS); go_simp; try rfl)
            try simp only [Act.put, List.setIfInBounds_toArray, List.set_cons_zero, List.set_cons_succ]
            refine wpAnyK_take (i := 10) (dst := some 107) (v := .agg F.toArray) rfl rfl (by kernel_rfl) (by kernel_rfl) (fun _ _ _ h => h) (yieldsIf_load_at (by rfl) 41 (.tmp 106) rfl ((a.add (k * 48)).add 4) rfl F _ (fun _ h => h.2) Tryd.underlying41 rfl (by rw [HA.out.len]; exact size41l)) (by assumption) ?_
            try simp only [Act.put, List.setIfInBounds_toArray, List.set_cons_zero, List.set_cons_succ]
            refine wpAnyK_one (i := 11) (by kernel_rfl) rfl rfl (fun K hK => ?_)
            go_simp
            refine (add_all HT.out.drew hB1 (by omega) ((HA.out.ok.below (Below.refl _ _).drew (Nat.le_refl _)).more hB1)).mono ?_
            rintro e w3 ⟨r, ec, last', D1', N', rfl, hor, hT3, hB3⟩
            replace hB3 : Below w1.heap.size wr w3 := (Below.refl _ _).drew.trans hB3
            have HA3 := HA.out.below hB3
            replace hS := (⟨HA3.c2, HA3.f⟩ : _ ∧ _)
            refine hK _ _ hS ?_
            clear hK K
            try simp only [Act.put, List.setIfInBounds_toArray, List.set_cons_zero, List.set_cons_succ]
            refine wpAnyK_take (i := 12) (dst := some 96) (v := ?_) rfl rfl (by kernel_rfl) (by kernel_rfl) (fun _ _ _ h => h) (Or.inl ⟨by rfl, ?_⟩) (by assumption) ?_
            rotate_left
            · (intro wS hS; (try dsimp only at hS); go_simp; try rfl)
            try simp only [Act.put, List.setIfInBounds_toArray, List.set_cons_zero, List.set_cons_succ]
            refine wpAnyK_take (i := 13) (dst := some 109) (v := ?_) rfl rfl (by kernel_rfl) (by kernel_rfl) (fun _ _ _ h => h) (Or.inl ⟨by rfl, ?_⟩) (by assumption) ?_
            rotate_left
            · (intro wS hS; (try dsimp only at hS); go_simp; try rfl)
            try simp only [Act.put, List.setIfInBounds_toArray, List.set_cons_zero, List.set_cons_succ]
            refine wpAnyK_take (i := 14) (dst := some 110) (v := ?_) rfl rfl (by kernel_rfl) (by kernel_rfl) (fun _ _ _ h => h) (Or.inl ⟨by rfl, ?_⟩) (by assumption) ?_
            rotate_left
            · (intro wS hS; (try dsimp only at hS); go_simp; try rfl)
            try simp only [Act.put, List.setIfInBounds_toArray, List.set_cons_zero, List.set_cons_succ]
            refine wpAnyK_take (i := 15) (dst := some 6) (v := ?_) rfl rfl (by kernel_rfl) (by kernel_rfl) (fun _ _ _ h => h) (Or.inl ⟨by rfl, ?_⟩) (by assumption) ?_
            rotate_left
            · (intro wS hS; (try dsimp only at hS); go_simp; try rfl)
            try simp only [Act.put, List.setIfInBounds_toArray, List.set_cons_zero, List.set_cons_succ]
            refine wpAnyK_tail (n := 16) rfl (by kernel_rfl) (by kernel_rfl) ?_
            simp only [List.drop_succ_cons, List.drop_zero]
            clear hS HA3
            have HT3 := Lib.hid hT3
            clear hT3
            have hwr : wrap64 ((last : Int) + 1) = last + 1 := by rw [← IntWalk.i64_left]; exact IntWalk.i64_in _ (by omega)
            have hwr' : IntKind.i64.wrap ((last : Int) + 1) = last + 1 := IntWalk.i64_in _ (by omega)
            have hm1 : max (last : Int) (last + 1) = last + 1 := by omega
            have hm0 : max (last : Int) 0 = last := by omega
            have hbb := hBr.trans hB3
            rcases hor with ⟨rfl, rfl, rfl⟩ | ⟨rfl, hec, rfl⟩
            · go_wp2_with fail
              go_roundw
              case rel => exact ⟨k + 1, last + 1, c, D1', D2, N', by go_num, by go_num, by omega, by omega, by omega, HT3.out, hbb⟩
              case measure => simp [intOf]; omega
            · rcases hec with rfl | rfl
              · go_wp2_with fail
                go_roundw
                case rel => exact ⟨k + 1, last', c, D1', D2, N', by go_num, by go_num, by omega, by omega, by omega, HT3.out, hbb⟩
                case measure => simp [intOf]; omega
              · go_wp2_with fail
                go_roundw
                case rel => exact ⟨k + 1, last', c, D1', D2, N', by go_num, by go_num, by omega, by omega, by omega, HT3.out, hbb⟩
                case measure => simp [intOf]; omega
        · by_cases d1 : d = 1
          · subst d1
            have hwf := HA.out.wf
            have c1 := HA.out.c1
            by_cases hp : Maps.has D1 (keyI pid) = true
            · as_aux_lemma =>
                have hs32 := HT.out.ln pid hp
                go_wp2_with (first
                  | (go_at_call 9; go_must (first | (refine (get_no h5 hwf Maps.has_del_same).mono ?_; rintro e w6 ⟨rfl, hw6⟩) | (refine (get_yes HT.out hwf hp).mono ?_; rintro e w3 ⟨par, u2, A3, C3, u, rfl, hs3, hw3⟩; obtain ⟨g2, C2, rfl, _, _⟩ := hs3.form)))
                  | ((with_reducible refine wpList_store_b (ty := 46) (x := .tmp 8) (y := .tmp 140) w3.heap.size 46 Z9 #[.int .i64 pid, .int .i64 par, .slice (some ⟨g2, 0, none⟩) 1 C2, .slice A3 0 C3, .string (N pid), .bool false, .bool false, .slice u.1 u.2.1 u.2.2.1, .slice u.2.2.2.1 u.2.2.2.2.1 u.2.2.2.2.2] ?_ ?_ ?_ ?_ ?_ ?_ ?_); rfl; rfl; exact Blk.new w3 46 Z9; exact size46; rfl; (simp [Value.oneCell']); intro w4 k4 g4 s4; have hb4 : Below wr.heap.size wr w4 := (hw3.alloc hw3.size _).trans (below_of_grown g4 hw3.size (Nat.le_trans hw3.size (by simp))); have h4 := HT.out.below hb4 (Nat.le_refl _); have e4 := (HA.out.below (hb4.mono hB1)).c1)
                  | (go_at_call 10; go_must (refine (drop_yes h4 (Nat.le_trans hB1 hb4.size) hwf hp).mono ?_); rintro e w5 ⟨rfl, h5, hb5', keep⟩; have hb5 := (hb4.mono hB1).trans hb5'; have e5 := (HA.out.below hb5).c1; have k5 := keep _ _ _ k4)
                  | ((with_reducible refine wpList_store_b (ty := 46) (x := .tmp 11) (y := .tmp 157) w6.heap.size 46 Z9 Z9 ?_ ?_ ?_ ?_ ?_ ?_ ?_); rfl; rfl; exact Blk.new w6 46 Z9; exact size46; rfl; exact z9_one; intro w7 k7 g7 s7; have hb7 : Below w5.heap.size w5 w7 := (hw6.alloc hw6.size _).trans (below_of_grown g7 hw6.size (Nat.le_trans hw6.size (by simp))); have h7 := h5.below hb7 (Nat.le_refl _); have d7 := (k5.below hb7 k5.lt).cell 4; obtain ⟨nn, _, HW0⟩ := whereis_tab h7 (s := N pid) (Nat.le_trans hs32 (by unfold maxLen; omega)); rw [Maps.has_del_same] at HW0; have HW := Lib.hid HW0; clear HW0)
                  | (go_at_call 11; go_must (refine HW.out.mono ?_); rintro e w8 ⟨rfl, hw8⟩; have h8 := h7.below hw8 (Nat.le_refl _); have hb8 := hb5.trans ((hb7.trans (hw8.mono hb7.size)).mono (Nat.le_trans hB1 (Nat.le_trans hb4.size hb5'.size)))))
                go_roundw
                case rel => exact ⟨k + 1, last, c, _, _, N, by go_num, by go_num, by omega, by omega, by omega, h8, hBr.trans hb8⟩
                case measure => simp [intOf]; omega
            · have hn : Maps.has D1 (keyI pid) = false := by simpa using hp
              as_aux_lemma =>
                go_wp2_with (first
                  | (go_at_call 9; go_must (first | (refine (get_no h5 hwf hn).mono ?_; rintro e w6 ⟨rfl, hw6⟩; have hb6 := hb5.trans (hw6.mono hb5.size)) | (refine (get_no HT.out hwf hn).mono ?_; rintro e w3 ⟨rfl, hw3⟩)))
                  | ((with_reducible refine wpList_store_b (ty := 46) (x := .tmp 8) (y := .tmp 140) w3.heap.size 46 Z9 Z9 ?_ ?_ ?_ ?_ ?_ ?_ ?_); rfl; rfl; exact Blk.new w3 46 Z9; exact size46; rfl; exact z9_one; intro w4 k4 g4 s4; have hb4 : Below wr.heap.size wr w4 := (hw3.alloc hw3.size _).trans (below_of_grown g4 hw3.size (Nat.le_trans hw3.size (by simp))); have h4 := HT.out.below hb4 (Nat.le_refl _); have e4 := (HA.out.below (hb4.mono hB1)).c1)
                  | (go_at_call 10; go_must (refine (drop_no h4 hwf hn).mono ?_); rintro e w5 ⟨rfl, hw5⟩; have hb5 := hb4.trans (hw5.mono hb4.size); have h5 := HT.out.below hb5 (Nat.le_refl _); have e5 := (HA.out.below (hb5.mono hB1)).c1; have k5 := k4.below hw5 k4.lt)
                  | ((with_reducible refine wpList_store_b (ty := 46) (x := .tmp 11) (y := .tmp 157) w6.heap.size 46 Z9 Z9 ?_ ?_ ?_ ?_ ?_ ?_ ?_); rfl; rfl; exact Blk.new w6 46 Z9; exact size46; rfl; exact z9_one; intro w7 k7 g7 s7; have hb7 : Below wr.heap.size wr w7 := (hb6.alloc hb6.size _).trans (below_of_grown g7 hb6.size (Nat.le_trans hb6.size (by simp))); have h7 := HT.out.below hb7 (Nat.le_refl _); have d7 := (((k5.below hw6 k5.lt).alloc _).grown g7 (some_ne (Nat.lt_of_lt_of_le k5.lt hw6.size))).cell 4; obtain ⟨nn, _, HW0⟩ := whereis_tab h7 (s := ⟨#[]⟩) (Nat.zero_le _); have HW := Lib.hid HW0; clear HW0)
                  | (go_at_call 11; go_must (refine HW.out.mono ?_); rintro e w8 ⟨rfl, hw8⟩; have hb8 := hb7.trans (hw8.mono hb7.size)))
                go_roundw
                case rel => exact ⟨k + 1, last, c, D1, D2, N, by go_num, by go_num, by omega, by omega, by omega, HT.out.below hb8 (Nat.le_refl _), hBr.trans (hb8.mono hB1)⟩
                case measure => simp [intOf]; omega
          · by_cases d2 : d = 2
            · subst d2
              as_aux_lemma =>
                go_upto_region 31 with (fail)
                refine wp_region_K (fun w' => w'.cell? ⟨(a.add (k * 48)).block, (a.add (k * 48)).off + 1, none⟩ = some (.int .i64 pid) ∧ w'.cell? ⟨(a.add (k * 48)).block, (a.add (k * 48)).off + 3, none⟩ = some (.string s)) 12 (by kernel_rfl) ⟨HA.out.c1, HA.out.c3⟩ (fun hS => ?_)
                refine wpAnyK_take (i := 0) (dst := some 181) (v := ?_) rfl rfl (by kernel_rfl) (by kernel_rfl) (fun _ _ _ h => h) (Or.inl ⟨by rfl, ?_⟩) (by assumption) ?_
                rotate_left
                · (intro wS hS; (try dsimp only at hS); go_simp; try rfl)
                try simp only [Act.put, List.setIfInBounds_toArray, List.set_cons_zero, List.set_cons_succ]
                refine wpAnyK_take (i := 1) (dst := some 182) (v := ?_) rfl rfl (by kernel_rfl) (by kernel_rfl) (fun _ _ _ h => h) (Or.inl ⟨by rfl, ?_⟩) (by assumption) ?_
                rotate_left
                · (intro wS hS; (try dsimp only at hS); go_simp; try rfl)
                try simp only [Act.put, List.setIfInBounds_toArray, List.set_cons_zero, List.set_cons_succ]
                refine wpAnyK_take (i := 2) (dst := some 183) (v := ?_) rfl rfl (by kernel_rfl) (by kernel_rfl) (fun _ _ _ h => h) (Or.inl ⟨by rfl, ?_⟩) (by assumption) ?_
                rotate_left
                · (intro wS hS; (try dsimp only at hS); go_simp; try rfl)
                try simp only [Act.put, List.setIfInBounds_toArray, List.set_cons_zero, List.set_cons_succ]
                refine wpAnyK_take (i := 3) (dst := some 184) (v := ?_) rfl rfl (by kernel_rfl) (by kernel_rfl) (fun _ _ _ h => h) (Or.inl ⟨by rfl, ?_⟩) (by assumption) ?_
                rotate_left
                · (intro wS hS; (try dsimp only at hS); go_simp; try rfl)
                try simp only [Act.put, List.setIfInBounds_toArray, List.set_cons_zero, List.set_cons_succ]
                refine wpAnyK_take (i := 4) (dst := some 185) (v := ?_) rfl rfl (by kernel_rfl) (by kernel_rfl) (fun _ _ _ h => h) (Or.inl ⟨by rfl, ?_⟩) (by assumption) ?_
                rotate_left
                · (intro wS hS; (try dsimp only at hS); go_simp; try rfl)
                try simp only [Act.put, List.setIfInBounds_toArray, List.set_cons_zero, List.set_cons_succ]
                refine wpAnyK_take (i := 5) (dst := some 186) (v := ?_) rfl rfl (by kernel_rfl) (by kernel_rfl) (fun _ _ _ h => h) (Or.inl ⟨by rfl, ?_⟩) (by assumption) ?_
                rotate_left
                · (intro wS hS; (try dsimp only at hS); go_simp; try rfl)
                try simp only [Act.put, List.setIfInBounds_toArray, List.set_cons_zero, List.set_cons_succ]
                refine wpAnyK_take (i := 6) (dst := some 187) (v := ?_) rfl rfl (by kernel_rfl) (by kernel_rfl) (fun _ _ _ h => h) (Or.inl ⟨by rfl, ?_⟩) (by assumption) ?_
                rotate_left
                · (intro wS hS; (try dsimp only at hS); go_simp; try rfl)
                try simp only [Act.put, List.setIfInBounds_toArray, List.set_cons_zero, List.set_cons_succ]
                refine wpAnyK_take (i := 7) (dst := some 188) (v := ?_) rfl rfl (by kernel_rfl) (by kernel_rfl) (fun _ _ _ h => h) (Or.inl ⟨by rfl, ?_⟩) (by assumption) ?_
                rotate_left
                · (intro wS hS; (try dsimp only at hS); go_simp; try rfl)
                try simp only [Act.put, List.setIfInBounds_toArray, List.set_cons_zero, List.set_cons_succ]
                refine wpAnyK_take (i := 8) (dst := some 189) (v := ?_) rfl rfl (by kernel_rfl) (by kernel_rfl) (fun _ _ _ h => h) (Or.inl ⟨by rfl, ?_⟩) (by assumption) ?_
                rotate_left
                · (intro wS hS; (try dsimp only at hS); go_simp; try rfl)
                try simp only [Act.put, List.setIfInBounds_toArray, List.set_cons_zero, List.set_cons_succ]
                refine wpAnyK_take (i := 9) (dst := some 190) (v := ?_) rfl rfl (by kernel_rfl) (by kernel_rfl) (fun _ _ _ h => h) (Or.inl ⟨by rfl, ?_⟩) (by assumption) ?_
                rotate_left
                · (intro wS hS; (try dsimp only at hS); go_simp; try rfl)
                try simp only [Act.put, List.setIfInBounds_toArray, List.set_cons_zero, List.set_cons_succ]
                refine wpAnyK_take (i := 10) (dst := some 191) (v := ?_) rfl rfl (by kernel_rfl) (by kernel_rfl) (fun _ _ _ h => h) (Or.inl ⟨by rfl, ?_⟩) (by assumption) ?_
                rotate_left
                · (intro wS hS; (try dsimp only at hS); go_simp; try rfl)
                try simp only [Act.put, List.setIfInBounds_toArray, List.set_cons_zero, List.set_cons_succ]
                refine wpAnyK_one (i := 11) (by kernel_rfl) rfl rfl (fun K hK => ?_)
                go_simp
                refine (name_all HT.out.drew hB1 hLr (by unfold maxLen; omega) HA.out.wf HA.out.hs).mono ?_
                rintro e w3 ⟨ec, c', D2', N', rfl, hT3, hB3, hcc, hec⟩
                replace hB3 : Below w1.heap.size wr w3 := (Below.refl _ _).drew.trans hB3
                have HA3 := HA.out.below hB3
                replace hS := (⟨HA3.c1, HA3.c3⟩ : _ ∧ _)
                refine hK _ _ hS ?_
                clear hK K
                try simp only [Act.put, List.setIfInBounds_toArray, List.set_cons_zero, List.set_cons_succ]
                refine wpAnyK_tail (n := 12) rfl (by kernel_rfl) (by kernel_rfl) ?_
                simp only [List.drop_succ_cons, List.drop_zero]
                clear hS
                have e3 := HA3.c3
                obtain ⟨nn, hat, HW0⟩ := whereis_tab hT3 (s := s) (Nat.le_trans HA.out.hs (by unfold maxLen; decide))
                have HT3 := Lib.hid hT3
                have HAc := Lib.hid HA3
                clear hT3 HA3
                cases hD : Maps.has D2' (keyS s) with
                | true =>
                  rw [hD] at HW0
                  have HW := Lib.hid HW0
                  clear HW0
                  obtain ⟨n', ha', hb', hc', hd'⟩ := HT3.out.nm s hD
                  have hnn : nn = n' := by rw [hat] at ha'; injection ha' with e1; injection e1
                  subst hnn
                  have hwn := HT3.out.wfOf (by omega) hb'
                  have hB3s := hB3.size
                  go_upto_region 34 with (first
                    | (go_at_call 11; go_must (refine HW.out.mono ?_); rintro e w4 ⟨rfl, hw4⟩)
                    | (go_at_call 9; go_must (refine (get_yes (HT3.out.below hw4 (Nat.le_refl _)) hwn hb').mono ?_); rw [hc']; rintro e w5 ⟨par, u2, A3, C3, u, rfl, hs3, hw5⟩; obtain ⟨g2, C2, rfl, _, _⟩ := hs3.form; have hb5 := hw4.trans (hw5.mono hw4.size))
                    | ((with_reducible refine wpList_store_b (ty := 46) (x := .tmp 18) (y := .tmp 207) w5.heap.size 46 Z9 #[.int .i64 nn, .int .i64 par, .slice (some ⟨g2, 0, none⟩) 1 C2, .slice A3 0 C3, .string s, .bool false, .bool false, .slice u.1 u.2.1 u.2.2.1, .slice u.2.2.2.1 u.2.2.2.2.1 u.2.2.2.2.2] ?_ ?_ ?_ ?_ ?_ ?_ ?_); rfl; rfl; exact Blk.new w5 46 Z9; exact size46; rfl; (simp [Value.oneCell']); intro w6 k6 g6 s6; have hb6 : Below w3.heap.size w3 w6 := (hb5.alloc hb5.size _).trans (below_of_grown g6 hb5.size (Nat.le_trans hb5.size (by simp)))))
                  have d6 := k6.cell 4
                  have e61 := HAc.out.below (hb6.mono (Nat.le_trans hB1 hB3s))
                  have x1 := e61.c1; have x3 := e61.c3
                  have h6 := HT3.out.below hb6 (Nat.le_refl _)
                  have H6 := Lib.hid h6
                  have hbb := hBr.trans (hB3.trans (hb6.mono (Nat.le_trans hB1 hB3s)))
                  have hdr : ∀ nq : Nat, Below w6.heap.size w6 (w6.drewN nq) := fun nq => ⟨rfl, rfl, rfl, Nat.le_refl _, fun _ _ => rfl⟩
                  clear k6 e61 h6
                  rcases hec with ⟨rfl, _, hpn⟩ | rfl | rfl | rfl
                  · have hpe : nn = pid := by rw [hat] at hpn; injection hpn with e1; injection e1
                    subst hpe
                    go_quiet (fail)
                    go_wp2_with fail
                    go_roundw
                    case rel => exact ⟨k + 1, last, c', D1, D2', N', by go_num, by go_num, by omega, by omega, by omega, H6.out.below (hdr nq) (Nat.le_refl _), hbb.trans ((hdr nq).mono (Nat.le_trans hB1 (Nat.le_trans hB3s hb6.size)))⟩
                    case measure => simp [intOf]; omega
                  · go_quiet (fail)
                    go_wp2_with fail
                    go_roundw
                    case rel => exact ⟨k + 1, last, c', D1, D2', N', by go_num, by go_num, by omega, by omega, by omega, H6.out.below (hdr nq) (Nat.le_refl _), hbb.trans ((hdr nq).mono (Nat.le_trans hB1 (Nat.le_trans hB3s hb6.size)))⟩
                    case measure => simp [intOf]; omega
                  · go_quiet (fail)
                    go_wp2_with fail
                    go_roundw
                    case rel => exact ⟨k + 1, last, c', D1, D2', N', by go_num, by go_num, by omega, by omega, by omega, H6.out.below (hdr nq) (Nat.le_refl _), hbb.trans ((hdr nq).mono (Nat.le_trans hB1 (Nat.le_trans hB3s hb6.size)))⟩
                    case measure => simp [intOf]; omega
                  · go_quiet (fail)
                    go_wp2_with fail
                    go_roundw
                    case rel => exact ⟨k + 1, last, c', D1, D2', N', by go_num, by go_num, by omega, by omega, by omega, H6.out.below (hdr nq) (Nat.le_refl _), hbb.trans ((hdr nq).mono (Nat.le_trans hB1 (Nat.le_trans hB3s hb6.size)))⟩
                    case measure => simp [intOf]; omega
                | false =>
                  rw [hD] at HW0
                  have hnn : nn = 0 := by rw [Maps.atKey_of_not_has hD] at hat; injection hat with e1; injection e1 with _ e1; exact e1.symm
                  subst hnn
                  have HW := Lib.hid HW0
                  clear HW0
                  have hB3s := hB3.size
                  go_upto_region 34 with (first
                    | (go_at_call 11; go_must (refine HW.out.mono ?_); rintro e w4 ⟨rfl, hw4⟩)
                    | (go_at_call 9; go_must (refine (get_no (HT3.out.below hw4 (Nat.le_refl _)) (by decide) HT3.out.no0).mono ?_); rintro e w5 ⟨rfl, hw5⟩; have hb5 := hw4.trans (hw5.mono hw4.size))
                    | ((with_reducible refine wpList_store_b (ty := 46) (x := .tmp 18) (y := .tmp 207) w5.heap.size 46 Z9 Z9 ?_ ?_ ?_ ?_ ?_ ?_ ?_); rfl; rfl; exact Blk.new w5 46 Z9; exact size46; rfl; exact z9_one; intro w6 k6 g6 s6; have hb6 : Below w3.heap.size w3 w6 := (hb5.alloc hb5.size _).trans (below_of_grown g6 hb5.size (Nat.le_trans hb5.size (by simp)))))
                  have d6 := k6.cell 4
                  have e61 := HAc.out.below (hb6.mono (Nat.le_trans hB1 hB3s))
                  have x1 := e61.c1; have x3 := e61.c3
                  have h6 := HT3.out.below hb6 (Nat.le_refl _)
                  have H6 := Lib.hid h6
                  have hbb := hBr.trans (hB3.trans (hb6.mono (Nat.le_trans hB1 hB3s)))
                  have hdr : ∀ nq : Nat, Below w6.heap.size w6 (w6.drewN nq) := fun nq => ⟨rfl, rfl, rfl, Nat.le_refl _, fun _ _ => rfl⟩
                  clear k6 e61 h6
                  rcases hec with ⟨_, hno, _⟩ | rfl | rfl | rfl
                  · rw [hD] at hno; cases hno
                  · go_quiet (fail)
                    go_wp2_with fail
                    go_roundw
                    case rel => exact ⟨k + 1, last, c', D1, D2', N', by go_num, by go_num, by omega, by omega, by omega, H6.out.below (hdr nq) (Nat.le_refl _), hbb.trans ((hdr nq).mono (Nat.le_trans hB1 (Nat.le_trans hB3s hb6.size)))⟩
                    case measure => simp [intOf]; omega
                  · go_quiet (fail)
                    go_wp2_with fail
                    go_roundw
                    case rel => exact ⟨k + 1, last, c', D1, D2', N', by go_num, by go_num, by omega, by omega, by omega, H6.out.below (hdr nq) (Nat.le_refl _), hbb.trans ((hdr nq).mono (Nat.le_trans hB1 (Nat.le_trans hB3s hb6.size)))⟩
                    case measure => simp [intOf]; omega
                  · go_quiet (fail)
                    go_wp2_with fail
                    go_roundw
                    case rel => exact ⟨k + 1, last, c', D1, D2', N', by go_num, by go_num, by omega, by omega, by omega, H6.out.below (hdr nq) (Nat.le_refl _), hbb.trans ((hdr nq).mono (Nat.le_trans hB1 (Nat.le_trans hB3s hb6.size)))⟩
                    case measure => simp [intOf]; omega
            · by_cases hp : Maps.has D1 (keyI pid) = true
              · have hwf := HA.out.wf
                have x1 := HA.out.c1
                obtain ⟨i0, z, hi0, hz0, hz1, hz2, hz3⟩ := info_any info41
                go_wp2_with (first
                  | (go_at_call 9; go_must (refine (get_yes HT.out hwf hp).mono ?_); rintro e w3 ⟨par, u2, A3, C3, u, rfl, hs3, hw3⟩; obtain ⟨g2, C2, rfl, hg2, hg2'⟩ := hs3.form)
                  | ((with_reducible refine wpList_store_b (ty := 46) (x := .tmp 20) (y := .tmp 48) w3.heap.size 46 Z9 #[.int .i64 pid, .int .i64 par, .slice (some ⟨g2, 0, none⟩) 1 C2, .slice A3 0 C3, .string (N pid), .bool false, .bool false, .slice u.1 u.2.1 u.2.2.1, .slice u.2.2.2.1 u.2.2.2.2.1 u.2.2.2.2.2] ?_ ?_ ?_ ?_ ?_ ?_ ?_); rfl; rfl; exact Blk.new w3 46 Z9; exact size46; rfl; (simp [Value.oneCell']); intro w4 k4 g4 s4; have hb4 : Below wr.heap.size wr w4 := (hw3.alloc hw3.size _).trans (below_of_grown g4 hw3.size (Nat.le_trans hw3.size (by simp))); have d2 := k4.cell 2; have d3 := k4.cell 3; have K4 := Lib.hid k4; have hs4 := (hs3.below ((Below.refl w3.heap.size w3).alloc (Nat.le_refl _) (.cells Z9 46)) (Nat.le_refl _)).kept (Blk.new w3 46 Z9) (.inr (.inl rfl)) g4; obtain ⟨cs2, ho4, _⟩ := hs4; have HO := Lib.hid ho4; clear k4 s4 hs3 ho4))
                refine wp_loop_rounds 1 ?_
                rw [rounds_succ]
                go_upto_region 15 with (first
                  | (at_builtin; go_must (refine wpList_append_any _ rfl (.tmp 63) (.tmp 65) _ rfl wr.heap.size 41 i0 z 35 504 Tryd.underlying42 hi0 hz0 hz1 hz2 hz3 (by omega) (.slice (some ⟨g2, 0, none⟩) 1 C2) 1 _ rfl (HO.out.alloc _) (w4.heap.size + 1) (some ⟨w4.heap.size, 0, none⟩) 1 1 _ rfl (Reads.of_new w4 ZK 41 35 rfl) zk_one (by unfold maxLen; omega) (by omega) (Nat.le_trans hb4.size (by simp)) ?_); intro v5 w5 hown5 hg5 hat5; obtain ⟨gv, cv, rfl, _, _⟩ := hown5.form (by omega); have kk := (K4.out.alloc (.cells ZK 41)).grown hg5 (by simp [Value.ownBlock]; omega); have c5 := kk.cell 2; have f5 := kk.frozen 2; have HG5 := Lib.hid hg5; clear hown5 hg5 hat5; have KK := Lib.hid kk; clear kk))
                clear f5
                have hb5 : Below wr.heap.size wr w5 := (hb4.alloc hb4.size (.cells ZK 41)).grown HG5.out (Nat.le_trans hb4.size (by simp)) (by intro k hk; simp [Value.ownBlock] at hk; omega)
                have hb6 := hb5.setCell (p := ⟨w3.heap.size, 2, none⟩) hw3.size (.slice (some ⟨gv, 0, none⟩) 2 cv)
                have x6 := (HA.out.below (hb6.mono hB1)).c1
                have H6 := Lib.hid (HT.out.below hb6 (Nat.le_refl _))
                have c6 : (w5.setCell ⟨w3.heap.size, 2, none⟩ (.slice (some ⟨gv, 0, none⟩) 2 cv)).cell? ⟨w3.heap.size, 2, none⟩ = some (.slice (some ⟨gv, 0, none⟩) 2 cv) := World.cell?_setCell_same _ _ _ (c5.trans rfl)
                have hlt6 : w3.heap.size < (w5.setCell ⟨w3.heap.size, 2, none⟩ (.slice (some ⟨gv, 0, none⟩) 2 cv)).heap.size := by rw [World.size_setCell]; exact KK.out.lt
                clear c5
                generalize (w5.setCell ⟨w3.heap.size, 2, none⟩ (.slice (some ⟨gv, 0, none⟩) (1 + 1) cv)) = w6 at *
                go_wp2_with (first
                  | (go_at_call 9; go_must (refine (get_yes H6.out hwf hp).mono ?_); rintro e w7 ⟨par7, u27, A37, C37, u7, rfl, hs7, hw7⟩; obtain ⟨g7, C7, rfl, _, _⟩ := hs7.form; have hb7 := hb6.trans (hw7.mono hb6.size))
                  | ((with_reducible refine wpList_store_b (ty := 46) (x := .tmp 23) (y := .tmp 76) w7.heap.size 46 Z9 #[.int .i64 pid, .int .i64 par7, .slice (some ⟨g7, 0, none⟩) 1 C7, .slice A37 0 C37, .string (N pid), .bool false, .bool false, .slice u7.1 u7.2.1 u7.2.2.1, .slice u7.2.2.2.1 u7.2.2.2.2.1 u7.2.2.2.2.2] ?_ ?_ ?_ ?_ ?_ ?_ ?_); rfl; rfl; exact Blk.new w7 46 Z9; exact size46; rfl; (simp [Value.oneCell']); intro w8 k8 g8 s8; have hb8 : Below wr.heap.size wr w8 := (hb7.alloc hb7.size _).trans (below_of_grown g8 hb7.size (Nat.le_trans hb7.size (by simp))); have hb68 : Below w6.heap.size w6 w8 := (hw7.alloc hw7.size _).trans (below_of_grown g8 hw7.size (Nat.le_trans hw7.size (by simp))); have d8 := k8.cell 2; have c8 := (hb68.cell (p := ⟨w3.heap.size, 2, none⟩) hlt6).trans c6; clear s8))
                go_roundw
                case rel => exact ⟨k + 1, last, c, D1, D2, N, by go_num, by go_num, by omega, by omega, by omega, HT.out.below hb8 (Nat.le_refl _), hBr.trans (hb8.mono hB1)⟩
                case measure => simp [intOf]; omega
              · have hn : Maps.has D1 (keyI pid) = false := by simpa using hp
                have hwf := HA.out.wf
                have x1 := HA.out.c1
                · obtain ⟨i0, z, hi0, hz0, hz1, hz2, hz3⟩ := info_any info41
                  go_wp2_with (first
                    | (go_at_call 9; go_must (refine (get_no HT.out hwf hn).mono ?_); rintro e w3 ⟨rfl, hw3⟩)
                    | ((with_reducible refine wpList_store_b (ty := 46) (x := .tmp 20) (y := .tmp 48) w3.heap.size 46 Z9 Z9 ?_ ?_ ?_ ?_ ?_ ?_ ?_); rfl; rfl; exact Blk.new w3 46 Z9; exact size46; rfl; exact z9_one; intro w4 k4 g4 s4; have hb4 : Below wr.heap.size wr w4 := (hw3.alloc hw3.size _).trans (below_of_grown g4 hw3.size (Nat.le_trans hw3.size (by simp))); have d2 := k4.cell 2; have d3 := k4.cell 3; have K4 := Lib.hid k4; clear k4 s4))
                  refine wp_loop_rounds 1 ?_
                  rw [rounds_succ]
                  go_upto_region 15 with (first
                    | (at_builtin; go_must (refine wpList_append_any _ rfl (.tmp 63) (.tmp 65) _ rfl wr.heap.size 41 i0 z 35 504 Tryd.underlying42 hi0 hz0 hz1 hz2 hz3 (by omega) (.slice none 0 0) 0 [] rfl (World.ownsRow_nil _ _ _ _) (w4.heap.size + 1) (some ⟨w4.heap.size, 0, none⟩) 1 1 _ rfl (Reads.of_new w4 ZK 41 35 rfl) zk_one (by unfold maxLen; omega) (by omega) (Nat.le_trans hb4.size (by simp)) ?_); intro v5 w5 hown5 hg5 hat5; obtain ⟨gv, cv, rfl, _, _⟩ := hown5.form (by omega); have kk := (K4.out.alloc (.cells ZK 41)).grown hg5 (by simp [Value.ownBlock]); have c5 := kk.cell 2; have f5 := kk.frozen 2; have HG5 := Lib.hid hg5; clear hown5 hg5 hat5 kk))
                  clear c5 f5
                  have hb5 : Below wr.heap.size wr w5 := (hb4.alloc hb4.size (.cells ZK 41)).grown HG5.out (Nat.le_trans hb4.size (by simp)) (by intro k hk; simp [Value.ownBlock] at hk)
                  have hb6 := hb5.setCell (p := ⟨w3.heap.size, 2, none⟩) hw3.size (.slice (some ⟨gv, 0, none⟩) 1 cv)
                  have x6 := (HA.out.below (hb6.mono hB1)).c1
                  have H6 := Lib.hid (HT.out.below hb6 (Nat.le_refl _))
                  generalize (w5.setCell ⟨w3.heap.size, 2, none⟩ (.slice (some ⟨gv, 0, none⟩) (0 + 1) cv)) = w6 at *
                  go_wp2_with (first
                    | (go_at_call 9; go_must (refine (get_no H6.out hwf hn).mono ?_); rintro e w7 ⟨rfl, hw7⟩; have hb7 := hb6.trans (hw7.mono hb6.size))
                    | ((with_reducible refine wpList_store_b (ty := 46) (x := .tmp 23) (y := .tmp 76) w7.heap.size 46 Z9 Z9 ?_ ?_ ?_ ?_ ?_ ?_ ?_); rfl; rfl; exact Blk.new w7 46 Z9; exact size46; rfl; exact z9_one; intro w8 k8 g8 s8; have hb8 : Below wr.heap.size wr w8 := (hb7.alloc hb7.size _).trans (below_of_grown g8 hb7.size (Nat.le_trans hb7.size (by simp))); clear s8))
                  go_roundw
                  case rel => exact ⟨k + 1, last, c, D1, D2, N, by go_num, by go_num, by omega, by omega, by omega, HT.out.below hb8 (Nat.le_refl _), hBr.trans (hb8.mono hB1)⟩
                  case measure => simp [intOf]; omega
      · go_wp2_with (first | (go_at_call 6; go_must (refine (wakes_any _ hLr).mono ?_); rintro e w2 ⟨rfl, hw2⟩))
        go_ret
        exact ⟨rfl, (hw1.trans (hBr.mono hw1.size)).trans (hw2.mono (Nat.le_trans hw1.size hB1))⟩
  · go_ret
    exact ⟨rfl, hw1.trans (hw2.mono hw1.size)⟩
end Go.Proofs.YtkiccfdfbmiooaaDoor

