/-
  What a table of processes is in memory, and what keeps it.
-/
import Derived.Test.YtkiccfdfbmiooaaDoorNw
import Derived.Maps.OwnSet
import Derived.Maps.OwnOps
import Derived.Maps.Views
namespace Go.Proofs.YtkiccfdfbmiooaaDoor
open Go Go.RowKit
open Go.Maps (Keyed)

/-- How an element of the map of processes reads: by its block. -/
def ptrElem : Value → Option (DataW Unit × List MemPlace)
  | .pointer none => some (.nil, [])
  | .pointer (some ⟨b, 0, none⟩) => some (.ptr (.lit (.int .i64 b)), [])
  | _ => none
theorem ptrElem_nil {v : Value} {ps : List MemPlace} (h : ptrElem v = some (.nil, ps)) : v = .pointer none := by
  unfold ptrElem at h
  split at h <;> simp_all
theorem ptrElem_ptr {v : Value} {b : Nat} {ps : List MemPlace} (h : ptrElem v = some (.ptr (.lit (.int .i64 b)), ps)) : v = .pointer (some ⟨b, 0, none⟩) := by
  unfold ptrElem at h
  split at h
  · simp at h
  · simp at h
    obtain ⟨h, _⟩ := h
    have : ∀ a b : Nat, (a : Int) = b → a = b := fun a b h => by omega
    rw [this _ _ h]
  · cases h
abbrev keyI (n : Int) : Lit := .int .i64 n
abbrev keyS (s : ByteArray) : Lit := .string s.data.toList

/-- A process of the table, at block b. -/
def PrOK (w : World) (B b : Nat) (pid : Int) (nm : ByteArray) : Prop :=
  B ≤ b ∧ ∃ parent stk links n, Blk w b 46 #[.int .i64 pid, .int .i64 parent, stk, .slice none 0 0, .string nm, .bool false, .bool false, links, .slice none 0 0] ∧ Stk w B stk ∧ SlOwn w B 3 1 8 links n

/-- A table: its block, its two maps, the processes; N: each one's name. -/
structure TabOK (w : World) (B T bp bn : Nat) (last c : Nat) (D1 D2 : DataW Unit) (N : Int → ByteArray) : Prop where
  lo : B ≤ T ∧ B ≤ bp ∧ B ≤ bn
  tab : Blk w T 67 #[.map (some bp), .map (some bn), .int .i64 last]
  m1 : w.ownsMap Tryd.prog 3 ptrElem bp last D1
  m2 : w.ownsMap Tryd.prog 9 (plainElem Tryd.prog 3) bn c D2
  ne : bp ≠ bn
  ps : ∀ pid : Int, Maps.has D1 (keyI pid) = true → 1 ≤ pid ∧ pid ≤ last ∧ ∃ b : Nat, D1.atKey (keyI pid) .nil = .ptr (.lit (.int .i64 b)) ∧ PrOK w B b pid (N pid)
  inj : ∀ (pid pid' : Int) (b : Nat), Maps.has D1 (keyI pid) = true → Maps.has D1 (keyI pid') = true → D1.atKey (keyI pid) .nil = .ptr (.lit (.int .i64 b)) → D1.atKey (keyI pid') .nil = .ptr (.lit (.int .i64 b)) → pid = pid'
  nm : ∀ s : ByteArray, Maps.has D2 (keyS s) = true → ∃ n : Int, D2.atKey (keyS s) (.lit (.int .i64 0)) = .lit (.int .i64 n) ∧ Maps.has D1 (keyI n) = true ∧ N n = s ∧ s.size ≠ 0
  mn : ∀ pid : Int, Maps.has D1 (keyI pid) = true → (N pid).size ≠ 0 → Maps.has D2 (keyS (N pid)) = true ∧ D2.atKey (keyS (N pid)) (.lit (.int .i64 0)) = .lit (.int .i64 pid)
  ln : ∀ pid : Int, Maps.has D1 (keyI pid) = true → (N pid).size ≤ 32

theorem law3 : Keyed Tryd.prog 3 := Maps.int_keyed Tryd.underlying3
theorem law9 : Keyed Tryd.prog 9 := Maps.string_keyed Tryd.underlying9

section
variable {w w' : World} {B b : Nat} {pid : Int} {nm : ByteArray}
theorem SlOwn.keptMap {g : Nat} {es : Array MapEntry} {cl base e sz bytes n : Nat} {v : Value} (h : SlOwn w base e sz bytes v n) (hg : w.heap[g]? = some (.map es cl)) (hw : w.grownBy w' (some g)) : SlOwn w' base e sz bytes v n := by
  obtain ⟨xs, h1, h2, h3⟩ := h
  refine ⟨xs, h1.kept hw (.inr fun e1 => ?_), h2, h3⟩
  rcases h1.2 with ⟨rfl, _⟩ | ⟨g', cap, cur, rfl, _, hh, _⟩
  · simp [Value.ownBlock] at e1
  · simp [Value.ownBlock] at e1
    subst e1
    rw [hg] at hh
    cases hh
theorem blk_ne_map {g t : Nat} {cs : Array Value} {es : Array MapEntry} {cl : Nat} {b : Nat} (h : Blk w b t cs) (hg : w.heap[g]? = some (.map es cl)) : b ≠ g := by
  rintro rfl
  unfold Blk at h
  rw [hg] at h
  cases h
theorem own_map_heap {P : Program} {k : TypeId} {R : Value → Option (DataW Unit × List MemPlace)} {bm n : Nat} {D : DataW Unit} (h : w.ownsMap P k R bm n D) : ∃ es cl, w.heap[bm]? = some (.map es cl) := by
  obtain ⟨es, cl, h, _⟩ := h
  exact ⟨es, cl, h⟩
theorem PrOK.below {C : Nat} (h : PrOK w B b pid nm) (hb : Below C w w') (hC : w.heap.size ≤ C) : PrOK w' B b pid nm := by
  obtain ⟨h0, parent, stk, links, n, h1, h2, h3⟩ := h
  exact ⟨h0, parent, stk, links, n, h1.below hb (by have := h1.lt; omega), h2.below hb hC, h3.below hb hC⟩
theorem PrOK.keptMap {g : Nat} {es : Array MapEntry} {cl : Nat} (h : PrOK w B b pid nm) (hg : w.heap[g]? = some (.map es cl)) (hw : w.grownBy w' (some g)) : PrOK w' B b pid nm := by
  obtain ⟨h0, parent, stk, links, n, h1, h2, h3⟩ := h
  exact ⟨h0, parent, stk, links, n, h1.grown hw (fun e => blk_ne_map h1 hg (by injection e)), h2.keptMap hg hw, h3.keptMap hg hw⟩
theorem PrOK.kept {g t : Nat} {ds : Array Value} (h : PrOK w B b pid nm) (hg : Blk w g t ds) (ht : t = 46 ∨ t = 67) (hne : b ≠ g) (hw : w.grownBy w' (some g)) : PrOK w' B b pid nm := by
  obtain ⟨h0, parent, stk, links, n, h1, h2, h3⟩ := h
  exact ⟨h0, parent, stk, links, n, h1.grown hw (fun e => hne (by injection e)), h2.kept hg (by omega) hw, h3.kept hg (by omega) hw⟩

variable {T bp bn last c : Nat} {D1 D2 : DataW Unit} {N : Int → ByteArray}
theorem grownBy_of_below {C : Nat} (hb : Below C w w') (hC : w.heap.size ≤ C) : w.grownBy w' none := ⟨hb.os, hb.tape, hb.output, hb.size, fun k hk _ => hb.block k (by omega)⟩
theorem TabOK.below {C : Nat} (h : TabOK w B T bp bn last c D1 D2 N) (hb : Below C w w') (hC : w.heap.size ≤ C) : TabOK w' B T bp bn last c D1 D2 N :=
  { h with
    tab := h.tab.below hb (by have := h.tab.lt; omega)
    m1 := h.m1.kept (grownBy_of_below hb hC) (by simp)
    m2 := h.m2.kept (grownBy_of_below hb hC) (by simp)
    ps := fun pid hp => by
      obtain ⟨h1, h2, b, h3, h4⟩ := h.ps pid hp
      exact ⟨h1, h2, b, h3, h4.below hb hC⟩ }
theorem TabOK.drew (h : TabOK w B T bp bn last c D1 D2 N) : TabOK w.drew B T bp bn last c D1 D2 N := h.below (Below.refl w.heap.size w).drew (Nat.le_refl _)
end
end Go.Proofs.YtkiccfdfbmiooaaDoor
