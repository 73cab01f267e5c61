/-
  Readable slices and structs, taken apart; a load at whatever address; size, Great, GreatAll, wide.
-/
import Derived.Test.YtkiccfdfbmiooaaDoorFr
import Derived.Test.YtkiccfdfbmiooaaDoorRd
import Derived.Deep.MidRow
namespace Go.Proofs.YtkiccfdfbmiooaaDoor
open Go Go.RowKit

section
variable {P : Program} {w w' : World} {B n : Nat} {t e : TypeId} {cs : List Value}
/-- A readable slice: its elements are readable. -/
def Sl (P : Program) (w : World) (B n : Nat) (e : TypeId) (v : Value) : Prop :=
  ∃ A len cap, v = .slice A len cap ∧ len ≤ cap ∧ cap ≤ maxLen ∧ len * P.bytesOf e ≤ reachBytes ∧ (A = none → len = 0 ∧ cap = 0) ∧
    ∀ i, i < len → ∃ a, A = some a ∧ a.block < B ∧ ∃ cs', cs'.length = P.cellsOf e ∧ (∀ j, j < P.cellsOf e → w.cell? (a.add (i * P.cellsOf e + j)) = cs'[j]?) ∧ Rd P w B n e cs'
theorem Rd.slice (h : Rd P w B (n + 1) t cs) (hu : P.underlying t = some (.slice e)) : ∃ v, cs = [v] ∧ Sl P w B n e v := by
  unfold Rd at h
  simp only [hu] at h
  rcases h with rfl | ⟨a, len, cap, rfl, h2, h3, h4, h5, h6⟩
  · exact ⟨_, rfl, none, 0, 0, rfl, by omega, by unfold maxLen; omega, by simp, fun _ => ⟨rfl, rfl⟩, fun i hi => absurd hi (by omega)⟩
  · refine ⟨_, rfl, some a, len, cap, rfl, h3, h4, h5, by simp, fun i hi => ?_⟩
    obtain ⟨cs', g1, g2, g3⟩ := h6 i hi
    exact ⟨a, rfl, h2 (by omega), cs', g1, g2, g3⟩
theorem Rd.struct {fs : Array Field} (h : Rd P w B (n + 1) t cs) (hu : P.underlying t = some (.struct fs)) :
    cs.length = P.cellsOf t ∧ ∀ (i : Nat) (f : Field), fs[i]? = some f → Rd P w B n f.type ((cs.drop f.offset).take (P.cellsOf f.type)) := by
  unfold Rd at h
  simpa only [hu] using h
theorem Rd.field {fs : Array Field} {i : Nat} {f : Field} {ft : TypeId} {off k : Nat} (h : Rd P w B (n + 1) t cs) (hu : P.underlying t = some (.struct fs)) (hf : fs[i]? = some f) (h1 : f.type = ft) (h2 : f.offset = off) (h3 : P.cellsOf ft = k) :
    Rd P w B n ft ((cs.drop off).take k) := by
  subst h1; subst h2; subst h3
  exact (h.struct hu).2 i f hf
theorem Rd.len {fs : Array Field} {k : Nat} (h : Rd P w B (n + 1) t cs) (hu : P.underlying t = some (.struct fs)) (h3 : P.cellsOf t = k) : cs.length = k := (h.struct hu).1.trans h3
theorem Sl.below {v : Value} (h : Sl P w B n e v) (hb : Below B w w') : Sl P w' B n e v := by
  obtain ⟨A, len, cap, h1, h2, h3, h4, h5, h6⟩ := h
  refine ⟨A, len, cap, h1, h2, h3, h4, h5, fun i hi => ?_⟩
  obtain ⟨a, g1, g2, cs', g3, g4, g5⟩ := h6 i hi
  exact ⟨a, g1, g2, cs', g3, fun j hj => by rw [hb.cell (by rw [addr_add_block]; exact g2)]; exact g4 j hj, g5.below hb⟩
theorem Rd.up {B' : Nat} (hB : B ≤ B') : ∀ (n : Nat) (t : TypeId) (cs : List Value), Rd P w B n t cs → Rd P w B' n t cs
  | 0, _, _, h => h
  | n + 1, t, cs, h => by
    unfold Rd at h ⊢
    split at h
    · exact h
    · exact h
    · exact h
    · rcases h with h | ⟨a, len, cap, h1, h2, h3, h4, h5, h6⟩
      · exact .inl h
      · refine .inr ⟨a, len, cap, h1, fun h0 => Nat.lt_of_lt_of_le (h2 h0) hB, h3, h4, h5, fun i hi => ?_⟩
        obtain ⟨cs', g1, g2, g3⟩ := h6 i hi
        exact ⟨cs', g1, g2, Rd.up hB n _ _ g3⟩
    · exact ⟨h.1, fun i f hf => Rd.up hB n _ _ (h.2 i f hf)⟩
    · exact h
theorem Sl.up {v : Value} {B' : Nat} (h : Sl P w B n e v) (hB : B ≤ B') : Sl P w B' n e v := by
  obtain ⟨A, len, cap, h1, h2, h3, h4, h5, h6⟩ := h
  refine ⟨A, len, cap, h1, h2, h3, h4, h5, fun i hi => ?_⟩
  obtain ⟨a, g1, g2, cs', g3, g4, g5⟩ := h6 i hi
  exact ⟨a, g1, by omega, cs', g3, g4, g5.up hB _ _ _⟩

/-- A struct loaded at whatever address. -/
theorem run_loadVar_at (w : World) (a : Addr) (ty : TypeId) (cs : List Value) (d : TypeDesc) (hc : ∀ j v, cs[j]? = some v → w.cell? (a.add j) = some v)
    (hu : P.underlying ty = some d) (hd : d.isRow = true) (hi : (P.info? ty).map (·.size) = some cs.length) :
    (loadVar ty a).run P w = .ok (.agg cs.toArray) w := by
  have hl : (loadCells a cs.length).run P w = .ok cs.toArray w := run_loadCells_list (P := P) w a cs hc
  cases hq : P.info? ty with
  | none => simp [hq] at hi
  | some i =>
    have hs : i.size = cs.length := by simpa [hq] using hi
    have hagg : (isAgg ty).run P w = .ok true w := by
      unfold isAgg
      rw [Sem.run_bind, run_underlying hu w]
      cases d <;> simp_all
    simp [loadVar, Sem.run_bind, hagg, sizeOf, typeInfo, hq, hs, hl]
theorem wp_load_at {op : Oper} {a : Act} {w : World} {K : Act → World → Prop} {Q : Exit → Act → World → Prop} (ty : TypeId) (x : Operand) (ho : op.op = .load ty x)
    (ad : Addr) (hx : a.eval x = .pointer (some ad)) (cs : List Value) (d : TypeDesc) (hc : ∀ j v, cs[j]? = some v → w.cell? (ad.add j) = some v)
    (hu : P.underlying ty = some d) (hd : d.isRow = true) (hi : (P.info? ty).map (·.size) = some cs.length)
    (h : K (a.put op.dst (.agg cs.toArray)) w) : op.wp P a w K Q := by
  unfold Oper.wp execOp
  simp only [ho, hx, Instr.loadAt, Instr.sureAddr, Sem.run_bind, Sem.run_pure, Result.andThen_ok, run_loadVar_at w ad ty cs d hc hu hd hi]
  exact h
theorem wpList_load_at {ops : Array Oper} {rest : List Oper} {op : Oper} {a : Act} {w : World} {Q : Exit → Act → World → Prop} (hgd : op.guard = none) (ty : TypeId) (x : Operand) (ho : op.op = .load ty x)
    (ad : Addr) (hx : a.eval x = .pointer (some ad)) (cs : List Value) (d : TypeDesc) (hc : ∀ j v, cs[j]? = some v → w.cell? (ad.add j) = some v)
    (hu : P.underlying ty = some d) (hd : d.isRow = true) (hi : (P.info? ty).map (·.size) = some cs.length)
    (h : wpList P ops Q rest (a.put op.dst (.agg cs.toArray)) w) : wpList P ops Q (op :: rest) a w :=
  wpList_plain hgd fun _ hK => wp_load_at ty x ho ad hx cs d hc hu hd hi (hK _ _ h)
/-- The operation written out: an arm that fails at once where it does not fit. -/
theorem wpList_load_a {ops : Array Oper} {rest : List Oper} {a : Act} {w : World} {Q : Exit → Act → World → Prop} {dst : Option Tmp} {tp : TypeId} {pos : String} {after : Array Edge} {ty : TypeId} {x : Operand}
    (ad : Addr) (cs : List Value) (d : TypeDesc) (hx : a.eval x = .pointer (some ad)) (hc : ∀ j v, cs[j]? = some v → w.cell? (ad.add j) = some v)
    (hu : P.underlying ty = some d) (hd : d.isRow = true) (hi : (P.info? ty).map (·.size) = some cs.length)
    (h : wpList P ops Q rest (a.put dst (.agg cs.toArray)) w) : wpList P ops Q (⟨dst, .load ty x, tp, pos, after, none⟩ :: rest) a w :=
  wpList_load_at rfl ty x rfl ad hx cs d hc hu hd hi h
end

theorem cells32 : Tryd.prog.cellsOf 32 = 5 := by kernel_rfl
theorem cells28 : Tryd.prog.cellsOf 28 = 1 := by kernel_rfl
theorem list5 {cs : List Value} (h : cs.length = 5) : ∃ v0 v1 v2 v3 v4, cs = [v0, v1, v2, v3, v4] := by
  match cs, h with
  | [v0, v1, v2, v3, v4], _ => exact ⟨v0, v1, v2, v3, v4, rfl⟩
variable {w w' : World} {B n : Nat}
set_option maxRecDepth 100000 in
/-- A readable term: five cells, of which the last is a readable slice of terms. -/
theorem Rd.term {cs : List Value} (h : Rd Tryd.prog w B (n + 2) 32 cs) : ∃ v0 v1 v2 v3 v4, cs = [v0, v1, v2, v3, v4] ∧ Sl Tryd.prog w B n 32 v4 := by
  have hl := h.len Tryd.underlying32 cells32
  obtain ⟨v0, v1, v2, v3, v4, rfl⟩ := list5 hl
  have h4 := h.field (i := 4) (ft := 28) (off := 4) (k := 1) Tryd.underlying32 rfl rfl rfl cells28
  obtain ⟨v, hv, hs⟩ := Rd.slice h4 Tryd.underlying28
  simp at hv
  subst hv
  exact ⟨v0, v1, v2, v3, v4, rfl, hs⟩

def IntPost (w : World) (e : Ending) (w' : World) : Prop := ∃ z : Int, e = .returned (.int .i64 z) ∧ Below w.heap.size w w'
def BoolPost (w : World) (e : Ending) (w' : World) : Prop := ∃ b : Bool, e = .returned (.bool b) ∧ Below w.heap.size w w'
theorem size32 : (Tryd.prog.info? 32).map (·.size) = some 5 := by kernel_rfl
set_option maxRecDepth 100000 in
theorem Sl.cellsAt {v : Value} {A : Option Addr} {len cap i : Nat} (h : Sl Tryd.prog w B (n + 2) 32 (.slice A len cap)) (hi : i < len) :
    ∃ a u0 u1 u2 u3 u4, A = some a ∧ a.block < B ∧ (∀ j u, [u0, u1, u2, u3, u4][j]? = some u → w.cell? ((a.add (i * 5)).add j) = some u) ∧ Sl Tryd.prog w B n 32 u4 := by
  obtain ⟨A', len', cap', e, _, _, _, _, h6⟩ := h
  injection e with e1 e2 e3
  subst e1; subst e2; subst e3
  obtain ⟨a, rfl, g2, cs', g3, g4, g5⟩ := h6 i hi
  obtain ⟨u0, u1, u2, u3, u4, rfl, hs⟩ := g5.term
  refine ⟨a, u0, u1, u2, u3, u4, rfl, g2, fun j u hu => ?_, hs⟩
  rw [cells32] at g4
  have hj : j < 5 := (List.getElem?_eq_some_iff.1 hu).1
  rw [add_of_add, g4 j hj]
  exact hu
end Go.Proofs.YtkiccfdfbmiooaaDoor
