/-
  What the row's list gives: the variable 'letters' holds its eight bytes. Types: 87 the table, 86 its rows, 5 byte; block 0.
-/
import Derived.Test.YtkiccfdfbmiooaaDoorRows
import Derived.Test.YtkiccfdfbmiooaaDoorAt
import Derived.OpenShut
import Derived.Lib.LaidTab
namespace Go.Proofs.YtkiccfdfbmiooaaDoor
open Go Go.RowKit
theorem gLetters : Tryd.prog.globalNamed "pleach/atoms.letters" = some 0 := by kernel_rfl
theorem gLettersType : (Tryd.prog.globals[0]?).map (·.type) = some 87 := by kernel_rfl
theorem cellsT4 : Tryd.prog.cellsOf 87 = 8 := by kernel_rfl
theorem cellsT2 : Tryd.prog.cellsOf 86 = 2 := by kernel_rfl
theorem cellsTB : Tryd.prog.cellsOf 5 = 1 := by kernel_rfl
theorem take_two {l : List Value} {i : Nat} {a b : Value} (h : (l.drop i).take 2 = [a, b]) : l[i]? = some a ∧ l[i + 1]? = some b := by
  have h0 := congrArg (·[0]?) h
  have h1 := congrArg (·[1]?) h
  simp [List.getElem?_take, List.getElem?_drop] at h0 h1
  exact ⟨h0, h1⟩
theorem letters_laid {W : World} (h : laidMetH Tryd.prog [("pleach/atoms.letters", Rows.laid_pleach_atoms_letters)] W) : Letters W := by
  have h' : laidMet Tryd.prog [("pleach/atoms.letters", Rows.laid_pleach_atoms_letters)] W := h
  obtain ⟨ps, ⟨g', t', cs, fuel, p, q, hg', ht', hvar, hd, _, _⟩, _⟩ := h'
  obtain rfl := Option.some.inj (gLetters.symm.trans hg')
  obtain rfl := Option.some.inj (gLettersType.symm.trans ht')
  obtain ⟨xs, m, rfl, hx, hlen, hxl, hf⟩ := DataW.trod_array Tryd.underlying87 hd
  have hxs : xs.map (·.1) = [Lib.tabData .u8 [97, 122], Lib.tabData .u8 [65, 90], Lib.tabData .u8 [48, 57], Lib.tabData .u8 [95, 95]] := by
    have := congrArg Prod.fst hx
    simp only [Rows.laid_pleach_atoms_letters, DataW.agg.injEq] at this
    rw [← this]
    rfl
  have row : ∀ (i : Nat) (a b : Int), i < 4 → (xs.map (·.1))[i]? = some (Lib.tabData .u8 [a, b]) → cs.toList[i * 2]? = some (.int .u8 a) ∧ cs.toList[i * 2 + 1]? = some (.int .u8 b) := by
    intro i a b hi he
    have h1 := hf i hi
    rw [cellsT2] at h1
    rw [List.getElem?_map] at he
    obtain ⟨x, hx1, hx2⟩ := Option.map_eq_some_iff.1 he
    rw [hx1] at h1
    obtain ⟨x1, x2⟩ := x
    simp only at hx2
    subst hx2
    exact take_two (Lib.cells_of_tab Tryd.underlying86 Tryd.underlying5 cellsTB cellsT2 h1)
  rw [hxs] at row
  obtain ⟨a0, a1⟩ := row 0 97 122 (by omega) rfl
  obtain ⟨a2, a3⟩ := row 1 65 90 (by omega) rfl
  obtain ⟨a4, a5⟩ := row 2 48 57 (by omega) rfl
  obtain ⟨a6, a7⟩ := row 3 95 95 (by omega) rfl
  have cell : ∀ (j : Nat) (v : Value), cs.toList[j]? = some v → W.cell? ⟨0, j, none⟩ = some v := by
    intro j v hj
    rw [World.var?_cell gLetters hvar j]
    simpa using hj
  intro j v hj
  match j, hj with
  | 0, hj => cases hj; exact cell 0 _ a0
  | 1, hj => cases hj; exact cell 1 _ a1
  | 2, hj => cases hj; exact cell 2 _ a2
  | 3, hj => cases hj; exact cell 3 _ a3
  | 4, hj => cases hj; exact cell 4 _ a4
  | 5, hj => cases hj; exact cell 5 _ a5
  | 6, hj => cases hj; exact cell 6 _ a6
  | 7, hj => cases hj; exact cell 7 _ a7
  | n + 8, hj => simp at hj
end Go.Proofs.YtkiccfdfbmiooaaDoor
