/-
  TableNames: the walk.
-/
import Derived.Test.YtkiccfdfbmiooaaDoorPd
import Derived.Test.YtkiccfdfbmiooaaDoorNm
namespace Go.Proofs.YtkiccfdfbmiooaaDoor
open Go Go.RowKit
attribute [local irreducible] Rd

/-- What holds between two acts. -/
def InvN (wb : World) (len T bp bn : Nat) (i : Value) (wr : World) : Prop :=
  ∃ (k last c : Nat) (D1 D2 : DataW Unit) (N : Int → ByteArray), i = .int .i64 k ∧ k ≤ len ∧ last ≤ k ∧ c ≤ k ∧ TabOK wr wb.heap.size T bp bn last c D1 D2 N ∧ Below wb.heap.size wb wr

section
variable {w w' : World} {B T bp bn last c : Nat} {D1 D2 : DataW Unit} {N : Int → ByteArray}
/-- Drop, whatever it answers. -/
def DropAll (w : World) (B T bp bn last c : Nat) (e : Ending) (w' : World) : Prop :=
  ∃ (ec : Int) (D1' D2' : DataW Unit) (N' : Int → ByteArray), e = .returned (.int .i64 ec) ∧ TabOK w' B T bp bn last c D1' D2' N' ∧ Below B w w'
theorem drop_all (h : TabOK w B T bp bn last c D1 D2 N) (hB : B ≤ w.heap.size) {pid : Int} (hw : (Lit.int .i64 pid).wf = true) :
    Calls Tryd.prog 10 #[.pointer (some ⟨T, 0, none⟩), .int .i64 pid] w (DropAll w B T bp bn last c) := by
  cases hp : Maps.has D1 (keyI pid) with
  | false =>
    refine (drop_no h hw hp).mono ?_
    rintro e w' ⟨rfl, hb⟩
    exact ⟨4, D1, D2, N, rfl, h.below hb (Nat.le_refl _), hb.mono hB⟩
  | true =>
    refine (drop_yes h hB hw hp).mono ?_
    rintro e w' ⟨rfl, h1, h2, _⟩
    exact ⟨0, _, _, _, rfl, h1, h2⟩
theorem last_q (h : TabOK w B T bp bn last c D1 D2 N) : Calls Tryd.prog 14 #[.pointer (some ⟨T, 0, none⟩)] w fun e w' => e = .returned (.int .i64 last) ∧ w' = w := by
  have c0 : w.cell? ⟨T, 2, none⟩ = some (.int .i64 last) := h.tab.cell 2
  clear h
  go_enter Tryd.func14, Tryd.ntmps14
  go_wp2
  go_ret
  exact ⟨rfl, rfl⟩
end

set_option maxRecDepth 100000 in
set_option maxHeartbeats 3200000 in
theorem names_walk (n : Nat) (A : Option Addr) (len cap : Nat) (w : World) (h : Sl Tryd.prog w w.heap.size n 48 (.slice A len cap)) (hL : Letters w) : Calls Tryd.prog 4 #[.slice A len cap] w (IsPost w true) := by
  have hlt := hL.lt
  have H := Lib.hid h
  clear h
  go_enter Tryd.func4, Tryd.ntmps4
  go_wp2_with (first
    | (go_at_call 5; go_must (refine (great5 A len cap w H.out).mono ?_); rintro e w1 ⟨b, rfl, hb1, hw1⟩; rcases b with _ | _)
    | (go_at_call 6; go_must (refine (wakes_any _ (hL.below hw1 hlt)).mono ?_); rintro e w2 ⟨rfl, hw2⟩)
    | (go_at_call 7; go_must (refine (new_tab w1).mono ?_); rintro e w2 ⟨T, bp, bn, rfl, ht, hw2⟩))
  · replace hb1 := hb1 trivial
    go_loopw [4] (fun i wr => InvN w1 len T bp bn i wr) (fun i _ => len - (RowKit.intOf i).toNat)
    case atStart => exact ⟨0, 0, 0, _, _, _, rfl, Nat.zero_le _, Nat.le_refl _, Nat.le_refl _, ht, hw2⟩
    case round =>
      obtain ⟨k, last, c, D1, D2, N, rfl, hk, hlk, hck, hT, hBr⟩ := hrel
      clear ht hw2
      have hLr : Letters wr := hL.below (hw1.trans (hBr.mono hw1.size)) hlt
      have hB1 : w1.heap.size ≤ wr.heap.size := hBr.size
      by_cases hkn : k < len
      · obtain ⟨a, d, pid, parent, s, F, rfl, hact⟩ := ((H.out.below (hw1.trans (hBr.mono hw1.size))).up hw1.size).actAt hkn
        have HA := Lib.hid hact
        have HT := Lib.hid hT
        have c0 := hact.c0
        clear hact hT
        go_upto_region 9 with (fail)
        by_cases d0 : d = 0
        · subst d0
          as_aux_lemma =>
            go_upto_region 10 with (fail)
            refine wp_region_K (fun w' => w'.cell? ⟨(a.add (k * 48)).block, (a.add (k * 48)).off + 2, none⟩ = some (.int .i64 parent) ∧ ∀ (j : Nat) (u : Value), F[j]? = some u → w'.cell? (((a.add (k * 48)).add 4).add j) = some u) 11 (by kernel_rfl) ⟨HA.out.c2, HA.out.f⟩ (fun hS => ?_)
            refine wpAnyK_take (i := 0) (dst := some 40) (v := ?_) rfl rfl (by kernel_rfl) (by kernel_rfl) (fun _ _ _ h => h) (Or.inl ⟨by rfl, ?_⟩) (by assumption) ?_
            rotate_left
            · (intro wS hS; (try dsimp only at hS); go_simp; try rfl)
            try simp only [Act.put, List.setIfInBounds_toArray, List.set_cons_zero, List.set_cons_succ]
            refine wpAnyK_take (i := 1) (dst := some 41) (v := ?_) rfl rfl (by kernel_rfl) (by kernel_rfl) (fun _ _ _ h => h) (Or.inl ⟨by rfl, ?_⟩) (by assumption) ?_
            rotate_left
            · (intro wS hS; (try dsimp only at hS); go_simp; try rfl)
            try simp only [Act.put, List.setIfInBounds_toArray, List.set_cons_zero, List.set_cons_succ]
            refine wpAnyK_take (i := 2) (dst := some 42) (v := ?_) rfl rfl (by kernel_rfl) (by kernel_rfl) (fun _ _ _ h => h) (Or.inl ⟨by rfl, ?_⟩) (by assumption) ?_
            rotate_left
            · (intro wS hS; (try dsimp only at hS); go_simp; try rfl)
            try simp only [Act.put, List.setIfInBounds_toArray, List.set_cons_zero, List.set_cons_succ]
            refine wpAnyK_take (i := 3) (dst := some 43) (v := ?_) rfl rfl (by kernel_rfl) (by kernel_rfl) (fun _ _ _ h => h) (Or.inl ⟨by rfl, ?_⟩) (by assumption) ?_
            rotate_left
            · (intro wS hS; (try dsimp only at hS); go_simp; try rfl)
            try simp only [Act.put, List.setIfInBounds_toArray, List.set_cons_zero, List.set_cons_succ]
            refine wpAnyK_take (i := 4) (dst := some 44) (v := ?_) rfl rfl (by kernel_rfl) (by kernel_rfl) (fun _ _ _ h => h) (Or.inl ⟨by rfl, ?_⟩) (by assumption) ?_
            rotate_left
            · (intro wS hS; (try dsimp only at hS); go_simp; try rfl)
            try simp only [Act.put, List.setIfInBounds_toArray, List.set_cons_zero, List.set_cons_succ]
            refine wpAnyK_take (i := 5) (dst := some 45) (v := ?_) rfl rfl (by kernel_rfl) (by kernel_rfl) (fun _ _ _ h => h) (Or.inl ⟨by rfl, ?_⟩) (by assumption) ?_
            rotate_left
            · (intro wS hS; (try dsimp only at hS); go_simp; try rfl)
            try simp only [Act.put, List.setIfInBounds_toArray, List.set_cons_zero, List.set_cons_succ]
            refine wpAnyK_take (i := 6) (dst := some 46) (v := ?_) rfl rfl (by kernel_rfl) (by kernel_rfl) (fun _ _ _ h => h) (Or.inl ⟨by rfl, ?_⟩) (by assumption) ?_
            rotate_left
            · (intro wS hS; (try dsimp only at hS); go_simp; try rfl)
            try simp only [Act.put, List.setIfInBounds_toArray, List.set_cons_zero, List.set_cons_succ]
            refine wpAnyK_take (i := 7) (dst := some 47) (v := ?_) rfl rfl (by kernel_rfl) (by kernel_rfl) (fun _ _ _ h => h) (Or.inl ⟨by rfl, ?_⟩) (by assumption) ?_
            rotate_left
            · (intro wS hS; (try dsimp only at hS); go_simp; try rfl)
            try simp only [Act.put, List.setIfInBounds_toArray, List.set_cons_zero, List.set_cons_succ]
            refine wpAnyK_take (i := 8) (dst := some 48) (v := ?_) rfl rfl (by kernel_rfl) (by kernel_rfl) (fun _ _ _ h => h) (Or.inl ⟨by rfl, ?_⟩) (by assumption) ?_
            rotate_left
            · (intro wS hS; (try dsimp only at hS); go_simp; try rfl)
            try simp only [Act.put, List.setIfInBounds_toArray, List.set_cons_zero, List.set_cons_succ]
            refine wpAnyK_take (i := 9) (dst := some 49) (v := ?_) rfl rfl (by kernel_rfl) (by kernel_rfl) (fun _ _ _ h => h) (Or.inl ⟨by rfl, ?_⟩) (by assumption) ?_
            rotate_left
            · (intro wS hS; (try dsimp only at hS); go_simp; try rfl)
            try simp only [Act.put, List.setIfInBounds_toArray, List.set_cons_zero, List.set_cons_succ]
            refine wpAnyK_take (i := 10) (dst := some 50) (v := .agg F.toArray) rfl rfl (by kernel_rfl) (by kernel_rfl) (fun _ _ _ h => h) (yieldsIf_load_at (by rfl) 41 (.tmp 49) rfl ((a.add (k * 48)).add 4) rfl F _ (fun _ h => h.2) Tryd.underlying41 rfl (by rw [HA.out.len]; exact size41l)) (by assumption) ?_
            try simp only [Act.put, List.setIfInBounds_toArray, List.set_cons_zero, List.set_cons_succ]
            refine wpAnyK_one (i := 11) (by kernel_rfl) rfl rfl (fun K hK => ?_)
            go_simp
            refine (add_all HT.out.drew hB1 (by omega) ((HA.out.ok.below (Below.refl _ _).drew (Nat.le_refl _)).more hB1)).mono ?_
            rintro e w3 ⟨r, ec, last', D1', N', rfl, hor, hT3, hB3⟩
            replace hB3 : Below w1.heap.size wr w3 := (Below.refl _ _).drew.trans hB3
            have HA3 := HA.out.below hB3
            replace hS := (⟨HA3.c2, HA3.f⟩ : _ ∧ _)
            refine hK _ _ hS ?_
            clear hK K
            try simp only [Act.put, List.setIfInBounds_toArray, List.set_cons_zero, List.set_cons_succ]
            refine ⟨by kernel_rfl, ?_⟩
            clear hS HA3
            have HT3 := Lib.hid hT3
            clear hT3
            have hbb := hBr.trans hB3
            have hl' : last' ≤ k + 1 := by omega
            clear hor
            go_wp2_with fail
            go_roundw
            case rel => exact ⟨k + 1, last', c, D1', D2, N', by go_num, by omega, by omega, by omega, HT3.out, hbb⟩
            case measure => simp [RowKit.intOf]; omega
        · by_cases d1 : d = 1
          · subst d1
            have hwf := HA.out.wf
            have c1 := HA.out.c1
            as_aux_lemma =>
              go_wp2_with (go_at_call 10; go_must (refine (drop_all HT.out hB1 hwf).mono ?_); rintro e w3 ⟨ec, D1', D2', N', rfl, hT3, hB3⟩; have HT3 := Lib.hid hT3; clear hT3)
              go_roundw
              case rel => exact ⟨k + 1, last, c, D1', D2', N', by go_num, by omega, by omega, by omega, HT3.out, hBr.trans hB3⟩
              case measure => simp [RowKit.intOf]; omega
          ·
            as_aux_lemma =>
              go_upto_region 8 with (fail)
              refine wp_region_K (fun w' => w'.cell? ⟨(a.add (k * 48)).block, (a.add (k * 48)).off + 1, none⟩ = some (.int .i64 pid) ∧ w'.cell? ⟨(a.add (k * 48)).block, (a.add (k * 48)).off + 3, none⟩ = some (.string s)) 11 (by kernel_rfl) ⟨HA.out.c1, HA.out.c3⟩ (fun hS => ?_)
              refine wpAnyK_take (i := 0) (dst := some 26) (v := ?_) rfl rfl (by kernel_rfl) (by kernel_rfl) (fun _ _ _ h => h) (Or.inl ⟨by rfl, ?_⟩) (by assumption) ?_
              rotate_left
              · (intro wS hS; (try dsimp only at hS); go_simp; try rfl)
              try simp only [Act.put, List.setIfInBounds_toArray, List.set_cons_zero, List.set_cons_succ]
              refine wpAnyK_take (i := 1) (dst := some 27) (v := ?_) rfl rfl (by kernel_rfl) (by kernel_rfl) (fun _ _ _ h => h) (Or.inl ⟨by rfl, ?_⟩) (by assumption) ?_
              rotate_left
              · (intro wS hS; (try dsimp only at hS); go_simp; try rfl)
              try simp only [Act.put, List.setIfInBounds_toArray, List.set_cons_zero, List.set_cons_succ]
              refine wpAnyK_take (i := 2) (dst := some 28) (v := ?_) rfl rfl (by kernel_rfl) (by kernel_rfl) (fun _ _ _ h => h) (Or.inl ⟨by rfl, ?_⟩) (by assumption) ?_
              rotate_left
              · (intro wS hS; (try dsimp only at hS); go_simp; try rfl)
              try simp only [Act.put, List.setIfInBounds_toArray, List.set_cons_zero, List.set_cons_succ]
              refine wpAnyK_take (i := 3) (dst := some 29) (v := ?_) rfl rfl (by kernel_rfl) (by kernel_rfl) (fun _ _ _ h => h) (Or.inl ⟨by rfl, ?_⟩) (by assumption) ?_
              rotate_left
              · (intro wS hS; (try dsimp only at hS); go_simp; try rfl)
              try simp only [Act.put, List.setIfInBounds_toArray, List.set_cons_zero, List.set_cons_succ]
              refine wpAnyK_take (i := 4) (dst := some 30) (v := ?_) rfl rfl (by kernel_rfl) (by kernel_rfl) (fun _ _ _ h => h) (Or.inl ⟨by rfl, ?_⟩) (by assumption) ?_
              rotate_left
              · (intro wS hS; (try dsimp only at hS); go_simp; try rfl)
              try simp only [Act.put, List.setIfInBounds_toArray, List.set_cons_zero, List.set_cons_succ]
              refine wpAnyK_take (i := 5) (dst := some 31) (v := ?_) rfl rfl (by kernel_rfl) (by kernel_rfl) (fun _ _ _ h => h) (Or.inl ⟨by rfl, ?_⟩) (by assumption) ?_
              rotate_left
              · (intro wS hS; (try dsimp only at hS); go_simp; try rfl)
              try simp only [Act.put, List.setIfInBounds_toArray, List.set_cons_zero, List.set_cons_succ]
              refine wpAnyK_take (i := 6) (dst := some 32) (v := ?_) rfl rfl (by kernel_rfl) (by kernel_rfl) (fun _ _ _ h => h) (Or.inl ⟨by rfl, ?_⟩) (by assumption) ?_
              rotate_left
              · (intro wS hS; (try dsimp only at hS); go_simp; try rfl)
              try simp only [Act.put, List.setIfInBounds_toArray, List.set_cons_zero, List.set_cons_succ]
              refine wpAnyK_take (i := 7) (dst := some 33) (v := ?_) rfl rfl (by kernel_rfl) (by kernel_rfl) (fun _ _ _ h => h) (Or.inl ⟨by rfl, ?_⟩) (by assumption) ?_
              rotate_left
              · (intro wS hS; (try dsimp only at hS); go_simp; try rfl)
              try simp only [Act.put, List.setIfInBounds_toArray, List.set_cons_zero, List.set_cons_succ]
              refine wpAnyK_take (i := 8) (dst := some 34) (v := ?_) rfl rfl (by kernel_rfl) (by kernel_rfl) (fun _ _ _ h => h) (Or.inl ⟨by rfl, ?_⟩) (by assumption) ?_
              rotate_left
              · (intro wS hS; (try dsimp only at hS); go_simp; try rfl)
              try simp only [Act.put, List.setIfInBounds_toArray, List.set_cons_zero, List.set_cons_succ]
              refine wpAnyK_take (i := 9) (dst := some 35) (v := ?_) rfl rfl (by kernel_rfl) (by kernel_rfl) (fun _ _ _ h => h) (Or.inl ⟨by rfl, ?_⟩) (by assumption) ?_
              rotate_left
              · (intro wS hS; (try dsimp only at hS); go_simp; try rfl)
              try simp only [Act.put, List.setIfInBounds_toArray, List.set_cons_zero, List.set_cons_succ]
              refine wpAnyK_take (i := 10) (dst := some 36) (v := ?_) rfl rfl (by kernel_rfl) (by kernel_rfl) (fun _ _ _ h => h) (Or.inl ⟨by rfl, ?_⟩) (by assumption) ?_
              rotate_left
              · (intro wS hS; (try dsimp only at hS); go_simp; try rfl)
              try simp only [Act.put, List.setIfInBounds_toArray, List.set_cons_zero, List.set_cons_succ]
              refine wpAnyK_one (i := 11) (by kernel_rfl) rfl rfl (fun K hK => ?_)
              go_simp
              refine (name_all HT.out.drew hB1 hLr (by unfold maxLen; omega) HA.out.wf HA.out.hs).mono ?_
              rintro e w3 ⟨ec, c', D2', N', rfl, hT3, hB3, hcc, hec⟩
              replace hB3 : Below w1.heap.size wr w3 := (Below.refl _ _).drew.trans hB3
              have HA3 := HA.out.below hB3
              replace hS := (⟨HA3.c1, HA3.c3⟩ : _ ∧ _)
              refine hK _ _ hS ?_
              clear hK K
              try simp only [Act.put, List.setIfInBounds_toArray, List.set_cons_zero, List.set_cons_succ]
              refine ⟨by kernel_rfl, ?_⟩
              clear hS HA3 hec
              have HT3 := Lib.hid hT3
              clear hT3
              have hbb := hBr.trans hB3
              go_wp2_with fail
              go_roundw
              case rel => exact ⟨k + 1, last, c', D1, D2', N', by go_num, by omega, by omega, by omega, HT3.out, hbb⟩
              case measure => simp [RowKit.intOf]; omega
      · have HT := Lib.hid hT
        clear hT
        obtain ⟨wo, hwo⟩ : ∃ wo : World, wr = wo := ⟨_, rfl⟩
        subst hwo
        have hle : last ≤ 1000000 := by omega
        go_wp2_with (go_at_call 13; go_must (refine (pids_tab HT.out hle).mono ?_); rintro e w5 ⟨A5, C5, zs, rfl, hP, hrow, hb5⟩)
        have hT5 := HT.out.below hb5 (Nat.le_refl _)
        have hzl : zs.length ≤ 1000000 := by have := hP.2.2; have := hT5.m1.size_le; omega
        have HT5 := Lib.hid hT5
        have HP := Lib.hid hP
        have HR := Lib.hid hrow
        have hb5s := hb5.size
        have hB5 := hBr.trans (hb5.mono hB1)
        clear hT5 hP hrow
        go_loopw [6] (fun i wr => ∃ j : Nat, i = .int .i64 j ∧ j ≤ zs.length ∧ Below w5.heap.size w5 wr) (fun i _ => zs.length - (RowKit.intOf i).toNat)
        case atStart => exact ⟨0, rfl, Nat.zero_le _, Below.refl _ _⟩
        case round =>
          obtain ⟨j, rfl, hj, hbq⟩ := hrel
          have hbqs := hbq.size
          by_cases hjn : j < zs.length
          · obtain ⟨g, cap, ev, hg, hglt⟩ := HR.out.form (by omega)
            injection ev with eA _ eC
            subst eA
            subst eC
            have hown := HR.out.kept (grownBy_of_below hbq (Nat.le_refl _)) (Classical.em _)
            have cellOf : ∀ i (hi : i < zs.length), wr.cell? ⟨g, i, none⟩ = some (.int .i64 zs[i]) := by
              intro i hi
              have h1 := hown.cells (g := g) rfl i (encZ zs[i]) (by rw [List.getElem?_map, List.getElem?_eq_getElem hi]; rfl)
              rwa [Addr.add_mid, Nat.zero_add] at h1
            have ck := cellOf j hjn
            have hhas := HP.out.2.1 zs[j] (List.getElem_mem hjn)
            have hTq := HT5.out.below hbq (Nat.le_refl _)
            have hpl := hTq.ps _ hhas
            have hwf : (Lit.int .i64 zs[j]).wf = true := WalkArith.wf_i64 (by omega)
            have hs32 := hTq.ln _ hhas
            have hwb : w1.heap.size ≤ wr.heap.size := by omega
            have hlt' : j = 0 ∨ ∃ j' , j = j' + 1 ∧ wr.cell? ⟨g, j', none⟩ = some (.int .i64 zs[j - 1]) ∧ zs[j - 1] < zs[j] := by
              cases j with
              | zero => exact .inl rfl
              | succ j' =>
                refine .inr ⟨j', rfl, cellOf j' (by omega), ?_⟩
                have := List.pairwise_iff_getElem.1 HP.out.1 j' (j' + 1) (by omega) hjn (by omega)
                simpa using this
            obtain ⟨pid, hpid⟩ : ∃ pid, zs[j] = pid := ⟨_, rfl⟩
            rw [hpid] at ck hhas hpl hwf hs32 hlt'
            obtain ⟨hp1, hp2, _⟩ := hpl
            have HTq := Lib.hid hTq
            have HHAS := Lib.hid hhas
            clear hown cellOf hTq hpid hhas
            have HJ1 := Lib.hid (show j + 1 ≤ zs.length by omega)
            go_upto_region 18 with (first
              | (go_at_call 9; go_must (refine (get_yes HTq.out hwf HHAS.out).mono ?_); rintro e w6 ⟨par, u2, A3, C3, u, rfl, hs3, hw6⟩; obtain ⟨g2, C2, rfl, _, _⟩ := hs3.form)
              | ((with_reducible refine wpList_store_b (ty := 46) (x := .tmp 7) (y := .tmp 76) w6.heap.size 46 Z9 #[.int .i64 pid, .int .i64 par, .slice (some ⟨g2, 0, none⟩) 1 C2, .slice A3 0 C3, .string (N pid), .bool false, .bool false, .slice u.1 u.2.1 u.2.2.1, .slice u.2.2.2.1 u.2.2.2.2.1 u.2.2.2.2.2] ?_ ?_ ?_ ?_ ?_ ?_ ?_); rfl; rfl; exact Blk.new w6 46 Z9; exact size46; rfl; (simp [Value.oneCell']); intro w7 k7 g7 s7; have hb7 : Below wr.heap.size wr w7 := (hw6.alloc hw6.size _).trans (below_of_grown g7 hw6.size (Nat.le_trans hw6.size (by simp)))))
            have hT7 := HTq.out.below hb7 (Nat.le_refl _)
            have d4 := k7.cell 4
            obtain ⟨nn, hat, HW0⟩ := whereis_tab hT7 (s := N pid) (Nat.le_trans hs32 (by unfold maxLen; omega))
            have HT7 := Lib.hid hT7
            have K7 := Lib.hid k7
            clear hT7 k7 s7
            have hgw : g < wr.heap.size := by omega
            have fin : ∀ w8, Below w7.heap.size w7 w8 → Below w5.heap.size w5 w8 := fun w8 h8 => hbq.trans ((hb7.trans (h8.mono hb7.size)).mono hbqs)
            have FIN := Lib.hid fin
            clear fin
            cases hD : Maps.has D2 (keyS (N pid)) with
            | true =>
              rw [hD] at HW0
              have HW := Lib.hid HW0
              clear HW0
              obtain ⟨n', _, _, hn3, hn4⟩ := HT7.out.nm _ hD
              have hnn : nn = pid := by
                have h1 := (HT7.out.mn pid HHAS.out hn4).2
                rw [hat] at h1
                injection h1 with e1
                injection e1
              subst hnn
              have q5 : (N nn).toList.isEmpty = false := by
                rw [ByteArray.toList_eq, List.isEmpty_eq_false_iff]
                intro e
                apply hn4
                rw [← ByteArray.size_data, ← Array.length_toList, e]
                rfl
              clear hat hD hn3 hn4 hs32
              go_upto_region 19 with (go_at_call 11; go_must (refine HW.out.mono ?_); rintro e w8 ⟨rfl, hw8⟩)
              have x0 : w8.cell? ⟨w6.heap.size, 0, none⟩ = some (.int .i64 nn) := (K7.out.below hw8 K7.out.lt).cell 0
              have x4 : w8.cell? ⟨w6.heap.size, 4, none⟩ = some (.string (N nn)) := (K7.out.below hw8 K7.out.lt).cell 4
              have hb8 : Below wr.heap.size wr w8 := hb7.trans (hw8.mono hb7.size)
              have H8 := Lib.hid (HT7.out.below hw8 (Nat.le_refl _))
              have y := (hb8.cell (p := ⟨g, j, none⟩) hgw).trans ck
              have hdr : ∀ nq : Nat, Below w8.heap.size w8 (w8.drewN nq) := fun nq => ⟨rfl, rfl, rfl, Nat.le_refl _, fun _ _ => rfl⟩
              rcases hlt' with rfl | ⟨j', rfl, y1, y2⟩
              · have q4 : decide ((last : Int) < nn) = false := by simp; omega
                have q0 : (0 : Int) < zs.length := by omega
                clear d4
                go_quiet ((go_at_call 14; exact Calls.quiet_of_same (last_q (H8.out.below (hdr _) (Nat.le_refl _)))))
                go_wp2_with fail
                go_roundw
                case rel => exact ⟨_, by go_num, HJ1.out, FIN.out _ (hw8.trans ((hdr nq).mono hw8.size))⟩
                case measure => have := HJ1.out; simp [RowKit.intOf]; omega
              · have q4 : decide ((last : Int) < nn) = false := by simp; omega
                have q0 : (0 : Int) < (j' : Int) + 1 := by omega
                have q1 : (j' : Int) + 1 < zs.length := by omega
                have q2 : (j' : Int) < zs.length := by omega
                have q3 : IntKind.i64.wrap ((j' : Int) + 1 - 1) = j' := by rw [show (j' : Int) + 1 - 1 = j' by omega]; exact IntWalk.i64_in _ (by omega)
                obtain ⟨pv, hpv⟩ : ∃ pv, zs[j' + 1 - 1] = pv := ⟨_, rfl⟩
                rw [hpv] at y1 y2
                have q6 : decide (nn ≤ pv) = false := by simp; omega
                have y1' := (hb8.cell (p := ⟨g, j', none⟩) hgw).trans y1
                clear hpv y1
                clear d4
                go_quiet ((go_at_call 14; exact Calls.quiet_of_same (last_q (H8.out.below (hdr _) (Nat.le_refl _)))))
                go_wp2_with fail
                go_roundw
                case rel => exact ⟨_, by go_num, HJ1.out, FIN.out _ (hw8.trans ((hdr nq).mono hw8.size))⟩
                case measure => have := HJ1.out; simp [RowKit.intOf]; omega
            | false =>
              rw [hD] at HW0
              have HW := Lib.hid HW0
              clear HW0
              have hz : (N pid).size = 0 := by
                by_cases hz : (N pid).size = 0
                · exact hz
                · have h1 := (HT7.out.mn pid HHAS.out hz).1
                  rw [hD] at h1
                  cases h1
              have q5 : (N pid).toList.isEmpty = true := by
                rw [ByteArray.toList_eq, List.isEmpty_iff, ← List.length_eq_zero_iff, Array.length_toList]
                exact hz
              clear hat hD hz hs32
              go_upto_region 19 with (go_at_call 11; go_must (refine HW.out.mono ?_); rintro e w8 ⟨rfl, hw8⟩)
              have x0 : w8.cell? ⟨w6.heap.size, 0, none⟩ = some (.int .i64 pid) := (K7.out.below hw8 K7.out.lt).cell 0
              have x4 : w8.cell? ⟨w6.heap.size, 4, none⟩ = some (.string (N pid)) := (K7.out.below hw8 K7.out.lt).cell 4
              have hb8 : Below wr.heap.size wr w8 := hb7.trans (hw8.mono hb7.size)
              have H8 := Lib.hid (HT7.out.below hw8 (Nat.le_refl _))
              have y := (hb8.cell (p := ⟨g, j, none⟩) hgw).trans ck
              have hdr : ∀ nq : Nat, Below w8.heap.size w8 (w8.drewN nq) := fun nq => ⟨rfl, rfl, rfl, Nat.le_refl _, fun _ _ => rfl⟩
              rcases hlt' with rfl | ⟨j', rfl, y1, y2⟩
              · have q4 : decide ((last : Int) < pid) = false := by simp; omega
                have q0 : (0 : Int) < zs.length := by omega
                clear d4
                go_quiet ((go_at_call 14; exact Calls.quiet_of_same (last_q (H8.out.below (hdr _) (Nat.le_refl _)))))
                go_wp2_with fail
                go_roundw
                case rel => exact ⟨_, by go_num, HJ1.out, FIN.out _ (hw8.trans ((hdr nq).mono hw8.size))⟩
                case measure => have := HJ1.out; simp [RowKit.intOf]; omega
              · have q4 : decide ((last : Int) < pid) = false := by simp; omega
                have q0 : (0 : Int) < (j' : Int) + 1 := by omega
                have q1 : (j' : Int) + 1 < zs.length := by omega
                have q2 : (j' : Int) < zs.length := by omega
                have q3 : IntKind.i64.wrap ((j' : Int) + 1 - 1) = j' := by rw [show (j' : Int) + 1 - 1 = j' by omega]; exact IntWalk.i64_in _ (by omega)
                obtain ⟨pv, hpv⟩ : ∃ pv, zs[j' + 1 - 1] = pv := ⟨_, rfl⟩
                rw [hpv] at y1 y2
                have q6 : decide (pid ≤ pv) = false := by simp; omega
                have y1' := (hb8.cell (p := ⟨g, j', none⟩) hgw).trans y1
                clear hpv y1
                clear d4
                go_quiet ((go_at_call 14; exact Calls.quiet_of_same (last_q (H8.out.below (hdr _) (Nat.le_refl _)))))
                go_wp2_with fail
                go_roundw
                case rel => exact ⟨_, by go_num, HJ1.out, FIN.out _ (hw8.trans ((hdr nq).mono hw8.size))⟩
                case measure => have := HJ1.out; simp [RowKit.intOf]; omega
          · have hT5 := HT5.out.below hbq (Nat.le_refl _)
            have hlen := len_tab hT5
            rw [← HP.out.2.2] at hlen
            have HLen := Lib.hid hlen
            have hBf := hB5.trans (hbq.mono (Nat.le_trans hB1 hb5s))
            have hLf : Letters wr := hL.below (hw1.trans (hBf.mono hw1.size)) hlt
            clear hT5 hlen
            go_wp2_with (first
              | (go_at_call 15; go_must (refine HLen.out.mono ?_); rintro e w6 ⟨rfl, hw6⟩)
              | (go_at_call 6; go_must (refine (wakes_any _ (hLf.below hw6 hLf.lt)).mono ?_); rintro e w7 ⟨rfl, hw7⟩))
            go_ret
            exact ⟨rfl, (hw1.trans (hBf.mono hw1.size)).trans ((hw6.trans (hw7.mono hw6.size)).mono (Nat.le_trans hw1.size hBf.size))⟩
  · go_ret
    exact ⟨rfl, hw1.trans (hw2.mono hw1.size)⟩
end Go.Proofs.YtkiccfdfbmiooaaDoor

