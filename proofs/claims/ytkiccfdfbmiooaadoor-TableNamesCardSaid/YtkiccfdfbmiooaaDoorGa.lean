/-
  great of a list of acts: it answers, and where it says no the list is of 120 at most.
-/
import Derived.Test.YtkiccfdfbmiooaaDoorGp
namespace Go.Proofs.YtkiccfdfbmiooaaDoor
open Go Go.RowKit
attribute [local irreducible] Rd

section
variable {w w' : World} {B n : Nat}
theorem wpList_load_g {P : Program} {ops : Array Oper} {rest : List Oper} {a : Act} {w : World} {Q : Exit → Act → World → Prop} {dst : Option Tmp} {tp : TypeId} {pos : String} {after : Array Edge} {ty : TypeId} {x : Operand} {gd : Nat × Bool}
    (hw : Region.wanted ⟨dst, .load ty x, tp, pos, after, some gd⟩ (yielded ops a.tmps) = true)
    (ad : Addr) (cs : List Value) (d : TypeDesc) (hx : a.eval x = .pointer (some ad)) (hc : ∀ j v, cs[j]? = some v → w.cell? (ad.add j) = some v)
    (hu : P.underlying ty = some d) (hd : d.isRow = true) (hi : (P.info? ty).map (·.size) = some cs.length)
    (h : wpList P ops Q rest (a.put dst (.agg cs.toArray)) w) : wpList P ops Q (⟨dst, .load ty x, tp, pos, after, some gd⟩ :: rest) a w := by
  simp only [wpList, hw, if_true]
  refine .inl ?_
  exact wp_load_at (op := ⟨dst, .load ty x, tp, pos, after, some gd⟩) (K := fun a' w' => wpList P ops Q rest a' w') ty x rfl ad hx cs d hc hu hd hi h
theorem ex_below {P : Program} {n e : Nat} {l : List Value} (h : ∃ v, l = [v] ∧ Sl P w B n e v) (hb : Below B w w') : ∃ v, l = [v] ∧ Sl P w' B n e v := by
  obtain ⟨v, h1, h2⟩ := h
  exact ⟨v, h1, h2.below hb⟩
theorem ex_up {P : Program} {n e B' : Nat} {l : List Value} (h : ∃ v, l = [v] ∧ Sl P w B n e v) (hb : B ≤ B') : ∃ v, l = [v] ∧ Sl P w B' n e v := by
  obtain ⟨v, h1, h2⟩ := h
  exact ⟨v, h1, h2.up hb⟩
theorem rd_below {P : Program} {n t : Nat} {cs : List Value} (h : Rd P w B n t cs) (hb : Below B w w') : Rd P w' B n t cs := Rd.below hb n t cs h
theorem rd_up {P : Program} {n t B' : Nat} {cs : List Value} (h : Rd P w B n t cs) (hB : B ≤ B') : Rd P w B' n t cs := Rd.up hB n t cs h
theorem FrRd.below {cs : List Value} (h : FrRd w B n cs) (hb : Below B w w') : FrRd w' B n cs where
  len := h.len
  one := h.one
  s3 := ex_below h.s3 hb
  s4 := ex_below h.s4 hb
  s5 := ex_below h.s5 hb
  s6 := ex_below h.s6 hb
  s28 := ex_below h.s28 hb
  s33 := ex_below h.s33 hb
  s34 := ex_below h.s34 hb
  t := rd_below h.t hb
  u := rd_below h.u hb
  v := rd_below h.v hb
theorem FrRd.up {cs : List Value} {B' : Nat} (h : FrRd w B n cs) (hB : B ≤ B') : FrRd w B' n cs where
  len := h.len
  one := h.one
  s3 := ex_up h.s3 hB
  s4 := ex_up h.s4 hB
  s5 := ex_up h.s5 hB
  s6 := ex_up h.s6 hB
  s28 := ex_up h.s28 hB
  s33 := ex_up h.s33 hB
  s34 := ex_up h.s34 hB
  t := rd_up h.t hB
  u := rd_up h.u hB
  v := rd_up h.v hB
/-- A readable act. -/
structure ActRd (w : World) (B n : Nat) (cs : List Value) : Prop where
  len : cs.length = 48
  act : ∃ d pid parent : Int, ∃ s : ByteArray, cs.take 4 = [.int .i64 d, .int .i64 pid, .int .i64 parent, .string s] ∧ (Lit.int .i64 pid).wf = true ∧ s.size ≤ reachBytes
  f : FrRd w B n ((cs.drop 4).take 35)
  p : Rd Tryd.prog w B (n + 3) 46 ((cs.drop 39).take 9)
theorem Rd.int_ {P : Program} {t : TypeId} {k : IntKind} {cs : List Value} (h : Rd P w B (n + 1) t cs) (hu : P.underlying t = some (.int k)) : ∃ z, cs = [.int k z] ∧ (Lit.int k z).wf = true := by
  unfold Rd at h
  simpa only [hu] using h
theorem Rd.string_ {P : Program} {t : TypeId} {cs : List Value} (h : Rd P w B (n + 1) t cs) (hu : P.underlying t = some .string) : ∃ s : ByteArray, cs = [.string s] ∧ s.size ≤ reachBytes := by
  unfold Rd at h
  simpa only [hu] using h
set_option maxRecDepth 100000 in
theorem Rd.act {cs : List Value} (h : Rd Tryd.prog w B (n + 4) 48 cs) : ActRd w B n cs := by
  have hl := h.len Tryd.underlying48 cells48
  refine ⟨hl, ?_, (h.field (i := 4) (ft := 41) (off := 4) (k := 35) Tryd.underlying48 rfl rfl rfl cells41).frame, h.field (i := 5) (ft := 46) (off := 39) (k := 9) Tryd.underlying48 rfl rfl rfl cells46⟩
  obtain ⟨d, e0, _⟩ := (h.field (i := 0) (ft := 3) (off := 0) (k := 1) Tryd.underlying48 rfl rfl rfl cells3).int_ Tryd.underlying3
  obtain ⟨pid, e1, hw⟩ := (h.field (i := 1) (ft := 3) (off := 1) (k := 1) Tryd.underlying48 rfl rfl rfl cells3).int_ Tryd.underlying3
  obtain ⟨parent, e2, _⟩ := (h.field (i := 2) (ft := 3) (off := 2) (k := 1) Tryd.underlying48 rfl rfl rfl cells3).int_ Tryd.underlying3
  obtain ⟨s, e3, hs⟩ := (h.field (i := 3) (ft := 9) (off := 3) (k := 1) Tryd.underlying48 rfl rfl rfl cells9).string_ Tryd.underlying9
  refine ⟨d, pid, parent, s, ?_, hw, hs⟩
  rw [show cs.take 4 = (cs.drop 0).take 1 ++ ((cs.drop 1).take 1 ++ ((cs.drop 2).take 1 ++ (cs.drop 3).take 1)) from ?_, e0, e1, e2, e3]
  · rfl
  · have h0 : 4 ≤ cs.length := by omega
    match cs, h0 with
    | a :: b :: c :: d :: r, _ => simp
theorem size46l : (Tryd.prog.info? 46).map (·.size) = some 9 := by kernel_rfl
theorem size48l : (Tryd.prog.info? 48).map (·.size) = some 48 := by kernel_rfl
def GrPost (w : World) (len : Nat) (e : Ending) (w' : World) : Prop := ∃ b : Bool, e = .returned (.bool b) ∧ (b = false → len ≤ 120) ∧ Below w.heap.size w w'

theorem part_cells {cs : List Value} {ad : Addr} {o k : Nat} (h : ∀ (j : Nat) (u : Value), cs[j]? = some u → w.cell? (ad.add j) = some u) : ∀ (j : Nat) (u : Value), ((cs.drop o).take k)[j]? = some u → w.cell? ((ad.add o).add j) = some u := by
  intro j u hu
  rw [add_of_add]
  refine h _ _ ?_
  by_cases hj : j < k
  · rw [List.getElem?_take, if_pos hj, List.getElem?_drop] at hu
    exact hu
  · rw [List.getElem?_take, if_neg hj] at hu
    cases hu

theorem cells_below {cs : List Value} {ad : Addr} (h : ∀ (j : Nat) (u : Value), cs[j]? = some u → w.cell? (ad.add j) = some u) (hb : Below B w w') (ha : ad.block < B) : ∀ (j : Nat) (u : Value), cs[j]? = some u → w'.cell? (ad.add j) = some u :=
  fun j u hu => (hb.cell (by rw [addr_add_block]; exact ha)).trans (h j u hu)
set_option maxRecDepth 100000 in
set_option maxHeartbeats 3200000 in
theorem great5 (A : Option Addr) (len cap : Nat) (w : World) (h : Sl Tryd.prog w w.heap.size n 48 (.slice A len cap)) : Calls Tryd.prog 5 #[.slice A len cap] w (GrPost w len) := by
  have hlen := h.len_le
  have H := Lib.hid h
  clear h
  go_enter Tryd.func5, Tryd.ntmps5
  go_wp2_with fail
  go_loopw [3] (fun i wr => ∃ (k : Nat), i = .int .i64 k ∧ k ≤ len ∧ Below w.heap.size w wr) (fun i _ => len - (intOf i).toNat)
  case atStart => exact ⟨0, rfl, Nat.zero_le _, Below.refl _ _⟩
  case round =>
    obtain ⟨k, rfl, hk, hbr⟩ := hrel
    by_cases hkn : k < len
    · obtain ⟨a, cs', rfl, ha, hl', hcs, hrd⟩ := ((H.out.below hbr).up hbr.size).elemG cells48 hkn
      have hact := (hrd.more (Nat.le_add_right n 4)).act
      obtain ⟨p0, p1, p2, p3, p4, p5, p6, p7, p8, ep, hpr⟩ := hact.p.proc
      have hf := hact.f
      have c1 := part_cells (o := 39) (k := 9) hcs
      rw [ep] at c1
      have HC1 := Lib.hid c1
      have HC2 := Lib.hid (part_cells (o := 4) (k := 35) hcs)
      have HLf := Lib.hid (show (Tryd.prog.info? 41).map (·.size) = some ((cs'.drop 4).take 35).length by rw [hf.len]; exact size41l)
      have HR := Lib.hid (greatp p0 p1 p2 p3 p4 p5 p6 p7 p8 wr hpr)
      have HF := Lib.hid hf
      clear hcs hrd hact hf c1 hpr ep
      go_wp2_with (first
        | ((with_reducible refine wpList_load_a (ty := 46) (x := .tmp 13) ((a.add (k * 48)).add 39) [p0, p1, p2, p3, p4, p5, p6, p7, p8] _ ?_ ?_ Tryd.underlying46 ?_ ?_ ?_); rfl; exact HC1.out; rfl; exact size46l)
        | (go_at_call 16; go_must (refine HR.out.mono ?_); rintro e w2 ⟨b, rfl, hw2⟩; have HC3 := Lib.hid (cells_below HC2.out hw2 (by rw [addr_add_block, addr_add_block]; exact ha)); have hc2 := hbr.trans (hw2.mono hbr.size); have HF2 := Lib.hid (greatf _ w2 ((HF.out.below hw2).up hw2.size)); rcases b with _ | _)
        | ((with_reducible refine wpList_load_g (ty := 41) (x := .tmp 20) ?_ ((a.add (k * 48)).add 4) ((cs'.drop 4).take 35) _ ?_ ?_ Tryd.underlying41 ?_ ?_ ?_); rfl; rfl; exact HC3.out; rfl; exact HLf.out)
        | (go_at_call 17; go_must (refine HF2.out.mono ?_); rintro e w3 ⟨b, rfl, hw3⟩; have hc3 := hc2.trans (hw3.mono hc2.size); rcases b with _ | _))
      · go_roundw
        case rel => exact ⟨k + 1, by go_num, by omega, hc3⟩
        case measure => simp [intOf]; omega
      · go_ret
        exact ⟨_, rfl, by simp, hc3⟩
      · go_ret
        exact ⟨_, rfl, by simp, hc2⟩
    · go_wp2
      go_ret
      exact ⟨_, rfl, by simp; omega, hbr⟩
end
end Go.Proofs.YtkiccfdfbmiooaaDoor
