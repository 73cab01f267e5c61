/-
  TableOnce: the walk.
-/
import Derived.Test.YtkiccfdfbmiooaaDoorWk
import Derived.Test.YtkiccfdfbmiooaaDoorGa
namespace Go.Proofs.YtkiccfdfbmiooaaDoor
open Go Go.RowKit
attribute [local irreducible] Rd

section
variable {w w' : World} {B T bp bn last c : Nat} {D1 D2 : DataW Unit} {N : Int → ByteArray}
theorem yieldsIf_load_at {P : Program} {ops : Array Oper} {S : World → Prop} {op : Oper} {a : Act} (hw : Region.wanted op (yielded ops a.tmps) = true) (ty : TypeId) (x : Operand) (ho : op.op = .load ty x)
    (ad : Addr) (hx : a.eval x = .pointer (some ad)) (cs : List Value) (d : TypeDesc) (hS : ∀ w, S w → ∀ (j : Nat) (v : Value), cs[j]? = some v → w.cell? (ad.add j) = some v)
    (hu : P.underlying ty = some d) (hd : d.isRow = true) (hi : (P.info? ty).map (·.size) = some cs.length) : YieldsIf P ops S op (.agg cs.toArray) a :=
  .inl ⟨hw, fun w hw' => by
    unfold execOp
    simp only [ho, hx, Instr.loadAt, Instr.sureAddr, Sem.run_bind, Sem.run_pure, Result.andThen_ok, run_loadVar_at w ad ty cs d (hS w hw') hu hd hi]⟩
/-- Add, whatever it answers. -/
def AddAll (w : World) (B T bp bn last c : Nat) (D2 : DataW Unit) (e : Ending) (w' : World) : Prop :=
  ∃ (r ec : Int) (last' : Nat) (D1' : DataW Unit) (N' : Int → ByteArray), e = .returned (.tuple #[.int .i64 r, .int .i64 ec]) ∧ ((r = last + 1 ∧ ec = 0 ∧ last' = last + 1) ∨ (r = 0 ∧ (ec = 2 ∨ ec = 20) ∧ last' = last)) ∧
    TabOK w' B T bp bn last' c D1' D2 N' ∧ Below B w w'
theorem add_all (h : TabOK w B T bp bn last c D1 D2 N) (hB : B ≤ w.heap.size) (hl : last ≤ 1000000) {parent : Int} {cs : Array Value} (hf : FrOK w w.heap.size cs) :
    Calls Tryd.prog 8 #[.pointer (some ⟨T, 0, none⟩), .int .i64 parent, .agg cs] w (AddAll w B T bp bn last c D2) := by
  by_cases hs : 32 ≤ Maps.size D1
  · refine (add_full h hf.1 hs).mono ?_
    rintro e w' ⟨rfl, hb⟩
    exact ⟨0, 20, last, D1, N, rfl, .inr ⟨rfl, .inr rfl, rfl⟩, h.below hb (Nat.le_refl _), hb.mono hB⟩
  · refine (add_any h hB hl hf (by omega)).mono ?_
    rintro e w' (⟨_, rfl, hb⟩ | ⟨_, b, rfl, ht, hb⟩)
    · exact ⟨0, 2, last, D1, N, rfl, .inr ⟨rfl, .inl rfl, rfl⟩, h.below hb (Nat.le_refl _), hb.mono hB⟩
    · exact ⟨last + 1, 0, last + 1, _, _, rfl, .inl ⟨rfl, rfl, rfl⟩, ht, hb⟩
/-- What an act's first cells are, at the address of the act. -/
structure ActAt (w : World) (B : Nat) (ad : Addr) (d pid parent : Int) (s : ByteArray) (F : List Value) : Prop where
  lo : ad.block < B
  c0 : w.cell? ad = some (.int .i64 d)
  c1 : w.cell? ⟨ad.block, ad.off + 1, none⟩ = some (.int .i64 pid)
  c2 : w.cell? ⟨ad.block, ad.off + 2, none⟩ = some (.int .i64 parent)
  c3 : w.cell? ⟨ad.block, ad.off + 3, none⟩ = some (.string s)
  f : ∀ (j : Nat) (u : Value), F[j]? = some u → w.cell? ((ad.add 4).add j) = some u
  wf : (Lit.int .i64 pid).wf = true
  hs : s.size ≤ reachBytes
  len : F.length = 35
  ok : FrOK w B F.toArray
theorem ActAt.below {ad : Addr} {d pid parent : Int} {s : ByteArray} {F : List Value} (h : ActAt w B ad d pid parent s F) (hb : Below B w w') : ActAt w' B ad d pid parent s F :=
  { lo := h.lo, c0 := (hb.cell h.lo).trans h.c0, c1 := (hb.cell (p := ⟨ad.block, ad.off + 1, none⟩) h.lo).trans h.c1, c2 := (hb.cell (p := ⟨ad.block, ad.off + 2, none⟩) h.lo).trans h.c2, c3 := (hb.cell (p := ⟨ad.block, ad.off + 3, none⟩) h.lo).trans h.c3,
    f := cells_below h.f hb (by rw [addr_add_block]; exact h.lo), wf := h.wf, hs := h.hs, len := h.len, ok := h.ok.below hb (Nat.le_refl _) }
set_option maxRecDepth 100000 in
theorem Sl.actAt {n : Nat} {A : Option Addr} {len cap k : Nat} (h : Sl Tryd.prog w B n 48 (.slice A len cap)) (hk : k < len) :
    ∃ a d pid parent s F, A = some a ∧ ActAt w B (a.add (k * 48)) d pid parent s F := by
  obtain ⟨a, cs', rfl, ha, hl', hcs, hrd⟩ := h.elemG cells48 hk
  have hact := (hrd.more (Nat.le_add_right n 4)).act
  obtain ⟨d, pid, parent, s, e4, hw, hs⟩ := hact.act
  have get : ∀ (j : Nat) (u : Value), [Value.int .i64 d, .int .i64 pid, .int .i64 parent, .string s][j]? = some u → cs'[j]? = some u := by
    intro j u hu
    have hj : j < 4 := (List.getElem?_eq_some_iff.1 hu).1
    rw [← e4, List.getElem?_take, if_pos hj] at hu
    exact hu
  exact ⟨a, d, pid, parent, s, _, rfl, by rw [addr_add_block]; exact ha, hcs 0 _ (get 0 _ rfl), hcs 1 _ (get 1 _ rfl), hcs 2 _ (get 2 _ rfl), hcs 3 _ (get 3 _ rfl), part_cells (o := 4) (k := 35) hcs, hw, hs, hact.f.len, hact.f.ok⟩
end
end Go.Proofs.YtkiccfdfbmiooaaDoor
