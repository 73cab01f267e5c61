/-
  package atoms: is, Prefix, fits, May: what they answer, while the table of letters holds what the program's text lays there.
-/
import Derived.Test.YtkiccfdfbmiooaaDoorProg
import Derived.Test.YtkiccfdfbmiooaaDoorRegK
import Derived.WalkKit
import Derived.WalkSpells
import Derived.KernelRfl
import Derived.LoopTactic
import Derived.Lib.Hide
import Derived.Deep.QuietTactic
import Derived.BigQuiet
import Derived.Deep.RegionHeld3
namespace Go.Proofs.YtkiccfdfbmiooaaDoor
open Go Go.RowKit

/-- The table of letters, in block G. -/
def Letters (w : World) : Prop := ∀ j v, ([97, 122, 65, 90, 48, 57, 95, 95] : List Int)[j]? = some v → w.cell? ⟨0, j, none⟩ = some (.int .u8 v)
theorem Letters.below {w w' : World} {B : Nat} (h : Letters w) (hb : Below B w w') (hB : 0 < B) : Letters w' := fun j v hj => (hb.cell (p := ⟨0, j, none⟩) hB).trans (h j v hj)
theorem Letters.lt {w : World} (h : Letters w) : 0 < w.heap.size := block_lt_of_cell (h 0 97 rfl)

def lo : Nat → Int | 0 => 97 | 1 => 65 | 2 => 48 | _ => 95
def hi : Nat → Int | 0 => 122 | 1 => 90 | 2 => 57 | _ => 95
def inRow (k : Nat) (c : Int) : Bool := decide (lo k ≤ c) && decide (c ≤ hi k)
def isB (n : Nat) (c : Int) : Bool := (List.range n).any fun k => inRow k c
theorem isB_true {n k : Nat} {c : Int} (hk : k < n) (h : inRow k c = true) : isB n c = true := List.any_eq_true.2 ⟨k, List.mem_range.2 hk, h⟩
theorem isB_false {n : Nat} {c : Int} (h : ∀ k, k < n → inRow k c = false) : isB n c = false := by
  unfold isB
  rw [List.any_eq_false]
  intro k hk
  simp [h k (List.mem_range.1 hk)]

theorem row_cells {w : World} (h : Letters w) (k : Nat) (hk : k < 4) : w.cell? ⟨0, k * 2, none⟩ = some (.int .u8 (lo k)) ∧ w.cell? ⟨0, k * 2 + 1, none⟩ = some (.int .u8 (hi k)) := by
  obtain rfl | rfl | rfl | rfl : k = 0 ∨ k = 1 ∨ k = 2 ∨ k = 3 := by omega
  · exact ⟨h 0 97 rfl, h 1 122 rfl⟩
  · exact ⟨h 2 65 rfl, h 3 90 rfl⟩
  · exact ⟨h 4 48 rfl, h 5 57 rfl⟩
  · exact ⟨h 6 95 rfl, h 7 95 rfl⟩
def IsPost (w : World) (b : Bool) (e : Ending) (w' : World) : Prop := e = .returned (.bool b) ∧ Below w.heap.size w w'

set_option maxRecDepth 100000 in
set_option maxHeartbeats 1600000 in
theorem is_any (c : Int) (n : Nat) (w : World) (hn : n ≤ 4) (hL : Letters w) : Calls Tryd.prog 30 #[.int .u8 c, .slice (some ⟨0, 0, none⟩) n 4] w (IsPost w (isB n c)) := by
  have hlt := hL.lt
  go_enter Tryd.func30, Tryd.ntmps30
  go_wp2_with fail
  go_loopw [9] (fun i wr => ∃ k : Nat, k ≤ n ∧ i = .int .i64 k ∧ (∀ j, j < k → inRow j c = false) ∧ Below w.heap.size w wr) (fun i _ => n - (intOf i).toNat)
  case atStart => exact ⟨0, Nat.zero_le _, rfl, fun j hj => absurd hj (by omega), Below.refl _ _⟩
  case round =>
    obtain ⟨k, hk, rfl, hf, hb⟩ := hrel
    by_cases hkn : k < n
    · have hL' := hL.below hb hlt
      obtain ⟨q0, q1⟩ := row_cells hL' k (by omega)
      have hin : inRow k c = (decide (lo k ≤ c) && decide (c ≤ hi k)) := rfl
      have hsz := hb.size
      obtain ⟨wo, rfl⟩ : ∃ wo : World, wo = wr := ⟨_, rfl⟩
      have HL := Lib.hid hL
      clear hL hL'
      generalize lo k = a at *
      generalize hi k = b at *
      have HI := Lib.hid hin
      clear hin
      by_cases h1 : a ≤ c
      · by_cases h2 : c ≤ b
        · have hE := isB_true hkn (show inRow k c = true by rw [HI.out]; simp [h1, h2])
          have HE := Lib.hid hE
          clear hE
          go_wp2
          go_ret
          exact ⟨by rw [HE.out]; rfl, (hb.alloc hsz _)⟩
        · have hne : inRow k c = false := by rw [HI.out]; simp [h2]
          have HN := Lib.hid hne
          clear hne
          go_wp2
          go_roundw
          case rel => exact ⟨k + 1, by omega, by go_num, fun j hj => by
            rcases Nat.lt_succ_iff_lt_or_eq.1 hj with h | rfl
            · exact hf j h
            · exact HN.out, hb.alloc hsz _⟩
          case measure => simp [intOf]; omega
      · have hne : inRow k c = false := by rw [HI.out]; simp [h1]
        have HN := Lib.hid hne
        clear hne
        go_wp2
        go_roundw
        case rel => exact ⟨k + 1, by omega, by go_num, fun j hj => by
          rcases Nat.lt_succ_iff_lt_or_eq.1 hj with h | rfl
          · exact hf j h
          · exact HN.out, hb.alloc hsz _⟩
        case measure => simp [intOf]; omega
    · have hE := isB_false (n := n) (c := c) (fun j hj => hf j (by omega))
      have HE := Lib.hid hE
      clear hE hL
      go_wp2
      go_ret
      exact ⟨by rw [HE.out]; rfl, hb⟩

/-- How far a text is letters. -/
def prefixB : List UInt8 → Nat
  | [] => 0
  | c :: r => if isB 4 c.toNat then prefixB r + 1 else 0
theorem prefixB_le : ∀ l : List UInt8, prefixB l ≤ l.length
  | [] => Nat.le_refl _
  | c :: r => by unfold prefixB; split <;> simp; exact prefixB_le r
def fitsB (l : List UInt8) : Bool := decide (1 ≤ l.length) && decide (l.length ≤ 32) && decide (prefixB l = l.length)
def mayB (l : List UInt8) : Bool := fitsB l && isB 1 (l.headD 0).toNat
structure Lib.Hid' (p : Prop) : Prop where
  out : p
theorem prefixB_all {l : List UInt8} {k : Nat} (hk : k ≤ l.length) (h : ∀ j, j < k → isB 4 (l.getD j 0).toNat = true) (he : k = l.length ∨ isB 4 (l.getD k 0).toNat = false) : prefixB l = k := by
  induction l generalizing k with
  | nil => simp at hk; simp [prefixB, hk]
  | cons c r ih =>
    cases k with
    | zero =>
      rcases he with he | he
      · simp at he
      · simp at he
        simp [prefixB, he]
    | succ k =>
      have h0 := h 0 (by omega)
      simp at h0
      simp only [prefixB, h0, if_true]
      have he' : k = r.length ∨ isB 4 (r.getD k 0).toNat = false := by
        rcases he with he | he
        · left; simpa using he
        · right; simpa using he
      rw [ih (k := k) (by simpa using hk) (fun j hj => by simpa using h (j + 1) (by omega)) he']

def PrefPost (w : World) (n : Nat) (e : Ending) (w' : World) : Prop := e = .returned (.int .i64 n) ∧ Below w.heap.size w w'
set_option maxRecDepth 100000 in
set_option maxHeartbeats 1600000 in
theorem prefix_any (s : ByteArray) (w : World) (hs : s.size ≤ 140737488351232) (hL : Letters w) : Calls Tryd.prog 37 #[.string s] w (PrefPost w (prefixB s.data.toList)) := by
  have hlt := hL.lt
  go_enter Tryd.func37, Tryd.ntmps37
  go_wp2_with fail
  go_loopw [6] (fun i wr => ∃ k : Nat, k ≤ s.size ∧ i = .int .i64 k ∧ (∀ j, j < k → isB 4 (s.data.toList.getD j 0).toNat = true) ∧ Below w.heap.size w wr) (fun i _ => s.size - (intOf i).toNat)
  case atStart => exact ⟨0, Nat.zero_le _, rfl, fun j hj => absurd hj (by omega), Below.refl _ _⟩
  case round =>
    obtain ⟨k, hk, rfl, hf, hb⟩ := hrel
    have hlen : s.data.toList.length = s.size := by rw [Array.length_toList]; rfl
    by_cases hkn : k < s.size
    · have hL' := hL.below hb hlt
      have hsz := hb.size
      obtain ⟨wo, rfl⟩ : ∃ wo : World, wo = wr := ⟨_, rfl⟩
      have HL := Lib.hid hL'
      clear hL hL'
      have hbyte : s.data.toList.getD k 0 = s[k] := by
        rw [List.getD_eq_getElem?_getD, List.getElem?_eq_getElem (by rw [hlen]; exact hkn)]
        rfl
      have hc1 : isB 4 (s[k].toNat : Int) = isB 4 (s.data.toList.getD k 0).toNat := by rw [hbyte]
      cases hq : isB 4 (s.data.toList.getD k 0).toNat with
      | true =>
        have HC : Lib.Hid' (isB 4 (s[k].toNat : Int) = true) := ⟨hc1.trans hq⟩
        have HQ := Lib.hid hq
        clear hq hbyte hlen hc1
        go_wp2_with fail
        go_region_held3 (fun _ => True) (trivial) (first | (go_at_call 30; refine (is_any _ 4 _ (Nat.le_refl _) (by exact HL.out)).mono ?_; rintro e w1 ⟨rfl, hw1⟩; rw [HC.out]))
        go_wp2_with fail
        go_roundw
        case rel => exact ⟨k + 1, by omega, by go_num, fun j hj => by
          rcases Nat.lt_succ_iff_lt_or_eq.1 hj with h | rfl
          · exact hf j h
          · exact HQ.out, hb.drew.trans (hw1.mono hsz)⟩
        case measure => simp [intOf]; omega
      | false =>
        have HC : Lib.Hid' (isB 4 (s[k].toNat : Int) = false) := ⟨hc1.trans hq⟩
        have HQ := Lib.hid hq
        have HE := Lib.hid (prefixB_all (l := s.data.toList) (by rw [hlen]; exact hk) hf (.inr hq))
        clear hq hbyte hlen hc1
        go_wp2_with fail
        go_region_held3 (fun _ => True) (trivial) (first | (go_at_call 30; refine (is_any _ 4 _ (Nat.le_refl _) (by exact HL.out)).mono ?_; rintro e w1 ⟨rfl, hw1⟩; rw [HC.out]))
        go_wp2_with fail
        go_ret
        exact ⟨by rw [HE.out]; rfl, hb.drew.trans (hw1.mono hsz)⟩
    · obtain rfl : k = s.size := by omega
      have HE := Lib.hid (prefixB_all (l := s.data.toList) (by rw [hlen]; exact Nat.le_refl _) hf (.inl hlen.symm))
      clear hL hlen
      go_wp2_with fail
      go_ret
      exact ⟨by rw [HE.out]; rfl, hb⟩

set_option maxRecDepth 100000 in
set_option maxHeartbeats 1600000 in
theorem fits_any (s : ByteArray) (w : World) (hs : s.size ≤ 140737488351232) (hL : Letters w) : Calls Tryd.prog 29 #[.string s] w (IsPost w (fitsB s.data.toList)) := by
  have hlen : s.data.toList.length = s.size := by rw [Array.length_toList]; rfl
  by_cases h1 : 1 ≤ s.size
  · by_cases h2 : s.size ≤ 32
    · cases hq : decide (prefixB s.data.toList = s.size) with
      | true =>
        have hp : prefixB s.data.toList = s.size := of_decide_eq_true hq
        have HE := Lib.hid (show fitsB s.data.toList = true by unfold fitsB; rw [hlen, hp]; simp [h1, h2])
        have HC := prefix_any s w hs hL
        rw [hp] at HC
        have HC' := Lib.hid HC
        clear hL hlen hq hp HC
        have q1 : ((s.size : Int) == (s.size : Int)) = true := by simp
        go_enter Tryd.func29, Tryd.ntmps29
        go_wp2_with (first | (go_at_call 37; refine HC'.out.mono ?_; rintro e w1 ⟨rfl, hw1⟩))
        go_ret
        exact ⟨by rw [HE.out]; rfl, hw1⟩
      | false =>
        have hp : prefixB s.data.toList ≠ s.size := of_decide_eq_false hq
        have HE := Lib.hid (show fitsB s.data.toList = false by unfold fitsB; rw [hlen]; simp [hp])
        have HC := prefix_any s w hs hL
        have q1 : ((prefixB s.data.toList : Int) == (s.size : Int)) = false := by simpa using fun h => hp (by omega)
        generalize prefixB s.data.toList = pq at *
        have HC' := Lib.hid HC
        clear hL hlen hq hp HC
        go_enter Tryd.func29, Tryd.ntmps29
        go_wp2_with (first | (go_at_call 37; refine HC'.out.mono ?_; rintro e w1 ⟨rfl, hw1⟩))
        go_ret
        exact ⟨by rw [HE.out]; rfl, hw1⟩
    · have HE := Lib.hid (show fitsB s.data.toList = false by unfold fitsB; rw [hlen]; simp [h2])
      clear hL hlen
      go_enter Tryd.func29, Tryd.ntmps29
      go_wp2_with fail
      go_ret
      exact ⟨by rw [HE.out]; rfl, Below.refl _ _⟩
  · have HE := Lib.hid (show fitsB s.data.toList = false by unfold fitsB; rw [hlen]; simp [h1])
    clear hL hlen
    go_enter Tryd.func29, Tryd.ntmps29
    go_wp2_with fail
    go_ret
    exact ⟨by rw [HE.out]; rfl, Below.refl _ _⟩

set_option maxRecDepth 100000 in
set_option maxHeartbeats 1600000 in
theorem may_any (s : ByteArray) (w : World) (hs : s.size ≤ 140737488351232) (hL : Letters w) : Calls Tryd.prog 20 #[.string s] w (IsPost w (mayB s.data.toList)) := by
  have hlen : s.data.toList.length = s.size := by rw [Array.length_toList]; rfl
  have hlt := hL.lt
  cases hq : fitsB s.data.toList with
  | false =>
    have HE := Lib.hid (show mayB s.data.toList = false by unfold mayB; rw [hq]; rfl)
    have HC : Lib.Hid' (∀ w : World, Letters w → Calls Tryd.prog 29 #[.string s] w (IsPost w false)) := ⟨fun w hL => hq ▸ fits_any s w hs hL⟩
    have HL := Lib.hid hL
    clear hq hlen hL
    go_enter Tryd.func20, Tryd.ntmps20
    go_wp2_with fail
    refine wp_region_K (fun _ => True) 8 (by kernel_rfl) trivial (fun _ => ?_)
    refine wpAnyK_take (i := 0) (dst := some 3) (v := ?_) rfl rfl (by kernel_rfl) (by kernel_rfl) (fun _ _ _ h => h) (Or.inl ⟨by rfl, ?_⟩) trivial ?_
    rotate_left
    · (intro wS hS; go_simp; try rfl)
    try simp only [Act.put, List.setIfInBounds_toArray, List.set_cons_zero, List.set_cons_succ]
    refine wpAnyK_one (i := 1) (by kernel_rfl) rfl rfl (fun K hK => ?_)
    go_simp
    refine (HC.out _ (by exact HL.out)).mono ?_
    rintro e w1 ⟨rfl, hw1⟩
    refine hK _ _ trivial ?_
    clear hK K
    try simp only [Act.put, List.setIfInBounds_toArray, List.set_cons_zero, List.set_cons_succ]
    refine wpAnyK_take (i := 2) (dst := some 5) (v := ?_) rfl rfl (by kernel_rfl) (by kernel_rfl) (fun _ _ _ h => h) (Or.inl ⟨by rfl, ?_⟩) trivial ?_
    rotate_left
    · (intro wS hS; go_simp; try rfl)
    try simp only [Act.put, List.setIfInBounds_toArray, List.set_cons_zero, List.set_cons_succ]
    refine wpAnyK_take (i := 3) (dst := some 6) (v := undef) rfl rfl (by kernel_rfl) (by kernel_rfl) (fun _ _ _ h => h) (Or.inr ⟨by rfl, rfl⟩) trivial ?_
    try simp only [Act.put, List.setIfInBounds_toArray, List.set_cons_zero, List.set_cons_succ]
    refine wpAnyK_take (i := 4) (dst := some 7) (v := undef) rfl rfl (by kernel_rfl) (by kernel_rfl) (fun _ _ _ h => h) (Or.inr ⟨by rfl, rfl⟩) trivial ?_
    try simp only [Act.put, List.setIfInBounds_toArray, List.set_cons_zero, List.set_cons_succ]
    refine wpAnyK_take (i := 5) (dst := some 8) (v := undef) rfl rfl (by kernel_rfl) (by kernel_rfl) (fun _ _ _ h => h) (Or.inr ⟨by rfl, rfl⟩) trivial ?_
    try simp only [Act.put, List.setIfInBounds_toArray, List.set_cons_zero, List.set_cons_succ]
    refine wpAnyK_take (i := 6) (dst := some 9) (v := undef) rfl rfl (by kernel_rfl) (by kernel_rfl) (fun _ _ _ h => h) (Or.inr ⟨by rfl, rfl⟩) trivial ?_
    try simp only [Act.put, List.setIfInBounds_toArray, List.set_cons_zero, List.set_cons_succ]
    refine wpAnyK_take (i := 7) (dst := some 10) (v := ?_) rfl rfl (by kernel_rfl) (by kernel_rfl) (fun _ _ _ h => h) (Or.inl ⟨by rfl, ?_⟩) trivial ?_
    rotate_left
    · (intro wS hS; go_simp; try rfl)
    try simp only [Act.put, List.setIfInBounds_toArray, List.set_cons_zero, List.set_cons_succ]
    refine wpAnyK_tail (n := 8) rfl (by kernel_rfl) (by kernel_rfl) ?_
    simp only [List.drop_succ_cons, List.drop_zero]
    go_wp2_with fail
    go_ret
    exact ⟨by rw [HE.out]; rfl, (Below.refl _ w).drew.trans hw1⟩
  | true =>
    have h1 : 0 < s.size := by
      unfold fitsB at hq
      simp only [Bool.and_eq_true, decide_eq_true_eq] at hq
      omega
    have hb0 : s.data.toList.headD 0 = s[0] := by
      rw [List.headD_eq_head?_getD, List.head?_eq_getElem?, List.getElem?_eq_getElem (by rw [hlen]; exact h1)]
      rfl
    have HE := Lib.hid (show mayB s.data.toList = isB 1 s[0].toNat by unfold mayB; rw [hq, hb0]; rfl)
    have HC : Lib.Hid' (∀ w : World, Letters w → Calls Tryd.prog 29 #[.string s] w (IsPost w true)) := ⟨fun w hL => hq ▸ fits_any s w hs hL⟩
    have HL := Lib.hid hL
    clear hq hlen hL hb0
    go_enter Tryd.func20, Tryd.ntmps20
    go_wp2_with fail
    refine wp_region_K (fun _ => True) 8 (by kernel_rfl) trivial (fun _ => ?_)
    refine wpAnyK_take (i := 0) (dst := some 3) (v := ?_) rfl rfl (by kernel_rfl) (by kernel_rfl) (fun _ _ _ h => h) (Or.inl ⟨by rfl, ?_⟩) trivial ?_
    rotate_left
    · (intro wS hS; go_simp; try rfl)
    try simp only [Act.put, List.setIfInBounds_toArray, List.set_cons_zero, List.set_cons_succ]
    refine wpAnyK_one (i := 1) (by kernel_rfl) rfl rfl (fun K hK => ?_)
    go_simp
    refine (HC.out _ (by exact HL.out)).mono ?_
    rintro e w1 ⟨rfl, hw1⟩
    refine hK _ _ trivial ?_
    clear hK K
    try simp only [Act.put, List.setIfInBounds_toArray, List.set_cons_zero, List.set_cons_succ]
    refine wpAnyK_take (i := 2) (dst := some 5) (v := ?_) rfl rfl (by kernel_rfl) (by kernel_rfl) (fun _ _ _ h => h) (Or.inl ⟨by rfl, ?_⟩) trivial ?_
    rotate_left
    · (intro wS hS; go_simp; try rfl)
    try simp only [Act.put, List.setIfInBounds_toArray, List.set_cons_zero, List.set_cons_succ]
    refine wpAnyK_take (i := 3) (dst := some 6) (v := ?_) rfl rfl (by kernel_rfl) (by kernel_rfl) (fun _ _ _ h => h) (Or.inl ⟨by rfl, ?_⟩) trivial ?_
    rotate_left
    · (intro wS hS; go_simp; try rfl)
    try simp only [Act.put, List.setIfInBounds_toArray, List.set_cons_zero, List.set_cons_succ]
    refine wpAnyK_take (i := 4) (dst := some 7) (v := ?_) rfl rfl (by kernel_rfl) (by kernel_rfl) (fun _ _ _ h => h) (Or.inl ⟨by rfl, ?_⟩) trivial ?_
    rotate_left
    · (intro wS hS; go_simp; try rfl)
    try simp only [Act.put, List.setIfInBounds_toArray, List.set_cons_zero, List.set_cons_succ]
    refine wpAnyK_take (i := 5) (dst := some 8) (v := ?_) rfl rfl (by kernel_rfl) (by kernel_rfl) (fun _ _ _ h => h) (Or.inl ⟨by rfl, ?_⟩) trivial ?_
    rotate_left
    · (intro wS hS; go_simp; try rfl)
    try simp only [Act.put, List.setIfInBounds_toArray, List.set_cons_zero, List.set_cons_succ]
    refine wpAnyK_oneG (i := 6) (by kernel_rfl) rfl (by rfl) (fun K hK => ?_)
    go_simp
    refine (is_any _ 1 _ (by decide) (Letters.below (w := w.drew) (by exact HL.out) hw1 (by simpa using hlt))).mono ?_
    rintro e w2 ⟨rfl, hw2⟩
    refine hK _ _ trivial ?_
    clear hK K
    try simp only [Act.put, List.setIfInBounds_toArray, List.set_cons_zero, List.set_cons_succ]
    refine wpAnyK_take (i := 7) (dst := some 10) (v := ?_) rfl rfl (by kernel_rfl) (by kernel_rfl) (fun _ _ _ h => h) (Or.inl ⟨by rfl, ?_⟩) trivial ?_
    rotate_left
    · (intro wS hS; go_simp; try rfl)
    try simp only [Act.put, List.setIfInBounds_toArray, List.set_cons_zero, List.set_cons_succ]
    refine wpAnyK_tail (n := 8) rfl (by kernel_rfl) (by kernel_rfl) ?_
    simp only [List.drop_succ_cons, List.drop_zero]
    go_wp2_with fail
    go_ret
    exact ⟨by rw [HE.out]; rfl, ((Below.refl _ w).drew.trans hw1).trans (hw2.mono (by have := hw1.size; simpa using this))⟩
end Go.Proofs.YtkiccfdfbmiooaaDoor
