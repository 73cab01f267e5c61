/-
  Readable frames, processes, acts: what lies where in them.
-/
import Derived.Test.YtkiccfdfbmiooaaDoorGr
namespace Go.Proofs.YtkiccfdfbmiooaaDoor
open Go Go.RowKit

/-- A list of types that is closed, and every cell of a struct lies in a field. -/
def coverIn (P : Program) (S : List TypeId) : Bool := S.all fun t => match P.underlying t with
  | some (.slice e) => S.contains e && decide (0 < P.cellsOf e)
  | some (.struct fs) => (List.range (P.cellsOf t)).all fun j => fs.toList.any fun f => S.contains f.type && decide (f.offset ≤ j) && decide (j < f.offset + P.cellsOf f.type)
  | _ => true
section
variable {P : Program} {w : World} {B : Nat} {S : List TypeId}
theorem Rd.one (hS : coverIn P S = true) : ∀ (n : Nat) (t : TypeId) (cs : List Value), t ∈ S → Rd P w B n t cs → ∀ (j : Nat) (v : Value), cs[j]? = some v → v.oneCell' = true
  | 0, _, _, _, h => h.elim
  | n + 1, t, cs, ht, h => by
    intro j v hv
    have hcov := List.all_eq_true.1 hS t ht
    unfold Rd at h
    split at h
    · obtain ⟨b, rfl⟩ := h
      have : v ∈ [Value.bool b] := List.mem_of_getElem? hv
      simp at this; subst this; rfl
    · obtain ⟨z, rfl, _⟩ := h
      have : v ∈ [Value.int _ z] := List.mem_of_getElem? hv
      simp at this; subst this; rfl
    · obtain ⟨s, rfl, _⟩ := h
      have : v ∈ [Value.string s] := List.mem_of_getElem? hv
      simp at this; subst this; rfl
    · rcases h with rfl | ⟨a, len, cap, rfl, _⟩
      · have : v ∈ [Value.slice none 0 0] := List.mem_of_getElem? hv
        simp at this; subst this; rfl
      · have : v ∈ [Value.slice (some a) len cap] := List.mem_of_getElem? hv
        simp at this; subst this; rfl
    · rename_i fs hu
      simp only [hu] at hcov
      have hj : j < P.cellsOf t := by rw [← h.1]; exact (List.getElem?_eq_some_iff.1 hv).1
      have h1 := List.all_eq_true.1 hcov j (List.mem_range.2 hj)
      obtain ⟨f, hf, hf2⟩ := List.any_eq_true.1 h1
      simp only [Bool.and_eq_true, decide_eq_true_eq, List.contains_iff_mem] at hf2
      obtain ⟨i, hi⟩ := List.getElem?_of_mem hf
      have hr := h.2 i f (by simpa using hi)
      refine Rd.one hS n f.type _ hf2.1.1 hr (j - f.offset) v ?_
      rw [List.getElem?_take, if_pos (by omega), List.getElem?_drop, Nat.add_sub_cancel' hf2.1.2]
      exact hv
    · exact h.elim
/-- A readable slice may be cloned. -/
theorem Sl.ok (hS : coverIn P S = true) {n sz bytes : Nat} {e : TypeId} {v : Value} (h : Sl P w B n e v) (he : e ∈ S) (hc : P.cellsOf e = sz) (hb : P.bytesOf e = bytes) (hpos : 0 < sz) : SlOK w B sz bytes v := by
  obtain ⟨A, len, cap, rfl, h2, h3, h4, h5, h6⟩ := h
  cases A with
  | none =>
    obtain ⟨rfl, rfl⟩ := h5 rfl
    exact .inl rfl
  | some a =>
    refine .inr ⟨a, len, cap, rfl, fun h0 => ?_, by rw [← hb]; exact h4, Nat.le_trans h2 h3⟩
    obtain ⟨a', e1, g2, _⟩ := h6 0 h0
    injection e1 with e1
    subst e1
    refine ⟨a, rfl, g2, fun j hj => ?_⟩
    have hq : j / sz < len := Nat.div_lt_of_lt_mul (by rwa [Nat.mul_comm])
    have hr := Nat.mod_lt j hpos
    obtain ⟨a', e1, _, cs', g3, g4, g5⟩ := h6 (j / sz) hq
    injection e1 with e1
    subst e1
    rw [hc] at g3 g4
    have hlt : j % sz < cs'.length := by omega
    have := g4 (j % sz) hr
    rw [show j / sz * sz + j % sz = j by rw [Nat.mul_comm]; exact Nat.div_add_mod j sz, List.getElem?_eq_getElem hlt] at this
    exact ⟨_, this, Rd.one hS n e cs' he g5 _ _ (List.getElem?_eq_getElem hlt)⟩
end

def SS : List TypeId := [22, 48, 3, 9, 4, 27, 41, 28, 32, 29, 30, 108, 39, 33, 114, 112, 110, 36, 34, 37, 42, 46, 43, 59, 44, 83]
theorem coverSS : coverIn Tryd.prog SS = true := by kernel_rfl
theorem flatSS : flatIn Tryd.prog SS = true := by kernel_rfl
theorem cells39 : Tryd.prog.cellsOf 39 = 27 := by kernel_rfl
theorem cells41 : Tryd.prog.cellsOf 41 = 35 := by kernel_rfl
theorem cells29 : Tryd.prog.cellsOf 29 = 1 := by kernel_rfl
theorem cells30 : Tryd.prog.cellsOf 30 = 1 := by kernel_rfl
theorem cells33 : Tryd.prog.cellsOf 33 = 1 := by kernel_rfl
theorem cells37 : Tryd.prog.cellsOf 37 = 1 := by kernel_rfl
theorem cells4 : Tryd.prog.cellsOf 4 = 1 := by kernel_rfl
theorem cells108 : Tryd.prog.cellsOf 108 = 2 := by kernel_rfl
theorem cells114 : Tryd.prog.cellsOf 114 = 13 := by kernel_rfl
theorem cells3 : Tryd.prog.cellsOf 3 = 1 := by kernel_rfl
theorem cells46 : Tryd.prog.cellsOf 46 = 9 := by kernel_rfl
theorem cells48 : Tryd.prog.cellsOf 48 = 48 := by kernel_rfl
theorem cells59 : Tryd.prog.cellsOf 59 = 6 := by kernel_rfl
theorem cells42 : Tryd.prog.cellsOf 42 = 1 := by kernel_rfl
theorem cells43 : Tryd.prog.cellsOf 43 = 1 := by kernel_rfl
theorem cells44 : Tryd.prog.cellsOf 44 = 1 := by kernel_rfl
theorem cells9 : Tryd.prog.cellsOf 9 = 1 := by kernel_rfl
theorem cells22 : Tryd.prog.cellsOf 22 = 1 := by kernel_rfl
theorem bytes32 : Tryd.prog.bytesOf 32 = 72 := by kernel_rfl
theorem bytes4 : Tryd.prog.bytesOf 4 = 1 := by kernel_rfl
theorem bytes108 : Tryd.prog.bytesOf 108 = 16 := by kernel_rfl
theorem bytes114 : Tryd.prog.bytesOf 114 = 176 := by kernel_rfl
theorem bytes3 : Tryd.prog.bytesOf 3 = 8 := by kernel_rfl

section
variable {w w' : World} {B n : Nat}
/-- What a readable frame is made of. -/
structure FrRd (w : World) (B n : Nat) (cs : List Value) : Prop where
  len : cs.length = 35
  one : ∀ (j : Nat) (v : Value), cs[j]? = some v → v.oneCell' = true
  s3 : ∃ v, (cs.drop 3).take 1 = [v] ∧ Sl Tryd.prog w B (n + 1) 32 v
  s4 : ∃ v, (cs.drop 4).take 1 = [v] ∧ Sl Tryd.prog w B (n + 1) 4 v
  s5 : ∃ v, (cs.drop 5).take 1 = [v] ∧ Sl Tryd.prog w B (n + 1) 32 v
  s6 : ∃ v, (cs.drop 6).take 1 = [v] ∧ Sl Tryd.prog w B (n + 1) 108 v
  t : Rd Tryd.prog w B (n + 1) 32 ((((cs.drop 8).take 27).drop 5).take 5)
  u : Rd Tryd.prog w B (n + 1) 32 ((((cs.drop 8).take 27).drop 10).take 5)
  v : Rd Tryd.prog w B (n + 1) 32 ((((cs.drop 8).take 27).drop 15).take 5)
  s28 : ∃ v, (((cs.drop 8).take 27).drop 20).take 1 = [v] ∧ Sl Tryd.prog w B n 114 v
  s33 : ∃ v, (((cs.drop 8).take 27).drop 25).take 1 = [v] ∧ Sl Tryd.prog w B n 3 v
  s34 : ∃ v, (((cs.drop 8).take 27).drop 26).take 1 = [v] ∧ Sl Tryd.prog w B n 3 v
set_option maxRecDepth 100000 in
theorem Rd.frame {cs : List Value} (h : Rd Tryd.prog w B (n + 3) 41 cs) : FrRd w B n cs := by
  have m := h.field (i := 8) (ft := 39) (off := 8) (k := 27) Tryd.underlying41 rfl rfl rfl cells39
  exact ⟨h.len Tryd.underlying41 cells41, Rd.one coverSS _ 41 cs (by decide) h,
    (h.field (i := 3) (ft := 28) (off := 3) (k := 1) Tryd.underlying41 rfl rfl rfl cells28).slice Tryd.underlying28,
    (h.field (i := 4) (ft := 29) (off := 4) (k := 1) Tryd.underlying41 rfl rfl rfl cells29).slice Tryd.underlying29,
    (h.field (i := 5) (ft := 28) (off := 5) (k := 1) Tryd.underlying41 rfl rfl rfl cells28).slice Tryd.underlying28,
    (h.field (i := 6) (ft := 30) (off := 6) (k := 1) Tryd.underlying41 rfl rfl rfl cells30).slice Tryd.underlying30,
    m.field (i := 5) (ft := 32) (off := 5) (k := 5) Tryd.underlying39 rfl rfl rfl cells32,
    m.field (i := 6) (ft := 32) (off := 10) (k := 5) Tryd.underlying39 rfl rfl rfl cells32,
    m.field (i := 7) (ft := 32) (off := 15) (k := 5) Tryd.underlying39 rfl rfl rfl cells32,
    (m.field (i := 8) (ft := 33) (off := 20) (k := 1) Tryd.underlying39 rfl rfl rfl cells33).slice Tryd.underlying33,
    (m.field (i := 10) (ft := 37) (off := 25) (k := 1) Tryd.underlying39 rfl rfl rfl cells37).slice Tryd.underlying37,
    (m.field (i := 11) (ft := 37) (off := 26) (k := 1) Tryd.underlying39 rfl rfl rfl cells37).slice Tryd.underlying37⟩
theorem take1 {cs : List Value} {k : Nat} {v : Value} (h : (cs.drop k).take 1 = [v]) : cs.toArray.getD k undef = v := by
  have : cs[k]? = some v := by
    have h1 := congrArg (fun l => l[0]?) h
    simpa using h1
  simp [this]
theorem take1' {cs : List Value} {k j : Nat} {v : Value} (hj : j < 27) (h : ((((cs.drop 8).take 27).drop j)).take 1 = [v]) (hk : k = 8 + j) : cs.toArray.getD k undef = v := by
  have : cs[8 + j]? = some v := by
    have h1 := congrArg (fun l => l[0]?) h
    simpa [List.getElem?_take, hj] using h1
  subst hk
  simp [this]
set_option maxRecDepth 100000 in
theorem FrRd.ok {cs : List Value} (h : FrRd w B n cs) : FrOK w B cs.toArray := by
  obtain ⟨v3, e3, h3⟩ := h.s3; obtain ⟨v4, e4, h4⟩ := h.s4; obtain ⟨v5, e5, h5⟩ := h.s5; obtain ⟨v6, e6, h6⟩ := h.s6
  obtain ⟨v28, e28, h28⟩ := h.s28; obtain ⟨v33, e33, h33⟩ := h.s33; obtain ⟨v34, e34, h34⟩ := h.s34
  refine ⟨by simpa using h.len, ?_, ?_, ?_, ?_, ?_, ?_, ?_, ?_⟩
  · rw [List.all_toArray, List.all_eq_true]
    intro v hv
    obtain ⟨j, hj⟩ := List.getElem?_of_mem hv
    exact h.one j v hj
  · rw [take1 e3]; exact h3.ok coverSS (by decide) cells32 bytes32 (by omega)
  · rw [take1 e4]; exact h4.ok coverSS (by decide) cells4 bytes4 (by omega)
  · rw [take1 e5]; exact h5.ok coverSS (by decide) cells32 bytes32 (by omega)
  · rw [take1 e6]; exact h6.ok coverSS (by decide) cells108 bytes108 (by omega)
  · rw [take1' (by omega) e28 rfl]; exact h28.ok coverSS (by decide) cells114 bytes114 (by omega)
  · rw [take1' (by omega) e33 rfl]; exact h33.ok coverSS (by decide) cells3 bytes3 (by omega)
  · rw [take1' (by omega) e34 rfl]; exact h34.ok coverSS (by decide) cells3 bytes3 (by omega)
end
end Go.Proofs.YtkiccfdfbmiooaaDoor

