/-
  'pleachlaw20.TableNames': whatever acts come in, the law answers true, and the acts read as they did. Conditions: those of the row (the table 'letters' holds what the program's text lays).
-/
import Derived.Test.YtkiccfdfbmiooaaDoorNx
import Derived.Test.YtkiccfdfbmiooaaDoorFi
import Derived.Test.YtkiccfdfbmiooaaDoorLa
import Derived.Test.YtkiccfdfbmiooaaDoorCards
import Derived.Test.YtkiccfdfbmiooaaDoorTie
namespace Go.Proofs.YtkiccfdfbmiooaaDoor.fnTableNames
open Go Go.RowKit Go.WideShapes Go.ChangeShapes

theorem own : ownKnob Tryd.prog.godebug = none := by kernel_rfl
theorem laidOut : laidOutB Tryd.prog = true := by kernel_rfl
theorem readable : Tryd.prog.readableRec 22 = true := by kernel_rfl
theorem rowed : 22 < Tryd.prog.types.size := of_decide_eq_true (by kernel_rfl)
theorem flat : flatIn Tryd.prog (Tryd.prog.book 22) = true := by kernel_rfl
theorem inBook : (Tryd.prog.book 22).contains 22 = true := by kernel_rfl

set_option maxRecDepth 100000 in
/-- What comes in is readable. -/
theorem comes {W : World} {H : Type} {enc : TypeId × Value → H} {v : Value} {d : DataW H} {p : List MemPlace} {base : Nat} (hv : Value.okWide Tryd.prog W .any base 22 v) (h : DataW.Trod enc Tryd.prog W 0 (fun _ => true) true 22 v d p) (hw : ∀ x ∈ d.weights Tryd.prog 22, x ≤ reachBytes) :
    ∃ n A len cap, v = .slice A len cap ∧ Sl Tryd.prog W W.heap.size n 48 v := by
  obtain ⟨fuel, hf⟩ := h
  obtain ⟨A, len, cap, rfl⟩ := okWide_slice Tryd.underlying22 hv
  have hr := rd_of_trod flat fuel 22 _ d p (List.contains_iff_mem.1 inBook) hf hw
  cases fuel with
  | zero => exact hr.elim
  | succ n =>
    obtain ⟨v', e, hs⟩ := hr.slice Tryd.underlying22
    obtain rfl : Value.slice A len cap = v' := by simpa [Value.cells] using e
    exact ⟨n, A, len, cap, rfl, hs⟩

set_option maxRecDepth 100000 in
theorem contract (H : Type) (enc : TypeId × Value → H) (W : World) (args : Array Value) (ds gs : List (DataW H)) (before : List MemPlace) {base : Nat}
    (hval : ∀ (j : Nat) t v, Tryd.f4.params[j]? = some t → args[j]? = some v → Value.okWide Tryd.prog W .any base t v)
    (hW : DataW.Whole enc Tryd.prog Tryd.f4.params.toList Rows.tableNamesSpec.vars false W args.toList ds gs before)
    (hR : (DataW.weightsEach Tryd.prog (Tryd.f4.params.toList ++ (OpenSpec.ofChange Rows.tableNamesSpec).bare.plain.varTypes Tryd.prog) (ds ++ gs)).all (· ≤ reachBytes) = true)
    (hL : laidMetH Tryd.prog Rows.tableNamesRow.laid W) :
    Calls Tryd.prog 4 args W fun e W' => ∃ v, e = .returned v ∧ Rows.tableNamesSpec.post enc Tryd.prog Tryd.f4 false true false false W args v W' := by
  have hW' := hW
  obtain ⟨p, q, hA, hV, rfl, hfz, hnd⟩ := hW
  rw [Tryd.params4] at hA hR hval
  obtain ⟨v0, d0, rfl, rfl, h0⟩ := trodAll_one hA
  obtain ⟨rfl, rfl⟩ := trodVars_none hV
  have hw : ∀ x ∈ d0.weights Tryd.prog 22, x ≤ reachBytes := by
    intro x hx
    have h1 := List.all_eq_true.1 hR x (weightsEach_mem _ _ 0 22 d0 (by simp only [List.cons_append, List.getElem?_cons_zero]) (by simp only [List.cons_append, List.getElem?_cons_zero]) x hx)
    exact of_decide_eq_true h1
  obtain ⟨n, A, len, cap, rfl, hs⟩ := comes (hval 0 22 v0 rfl rfl) h0 hw
  refine (names_walk n A len cap W hs (letters_laid hL)).mono ?_
  rintro e W' ⟨rfl, hb⟩
  refine ⟨_, rfl, post_true (tb := 4) hW' rfl ⟨rfl, rfl, rfl⟩ (by kernel_rfl) Tryd.underlying4 laidOut ?_ hb⟩
  intro t ht
  rw [Tryd.params4] at ht
  obtain rfl : t = 22 := by simpa using ht
  exact ⟨readable, rowed⟩

/-- A world for the witness: the settled one, the table holding what its initialiser lays. -/
noncomputable def laidWorld (os : Os) : World :=
  { World.holding Tryd.prog os ⟨#[], #[], []⟩ with heap := (World.holding Tryd.prog os ⟨#[], #[], []⟩).heap.modify 0 fun
      | .cells _ t frozen => .cells #[.int .u8 97, .int .u8 122, .int .u8 65, .int .u8 90, .int .u8 48, .int .u8 57, .int .u8 95, .int .u8 95] t frozen
      | o => o }
theorem laid_met (os : Os) : laidMet Tryd.prog Rows.tableNamesRow.laid ((laidWorld os).forCall (fun _ _ => 0) ⟨#[], #[.slice none 0 0], []⟩).memory :=
  laidMet_of_run' 8 (by kernel_rfl) (by kernel_rfl)
theorem reads (os : Os) {H : Type} (enc : TypeId × Value → H) : ∃ places, DataW.whole enc Tryd.prog ((laidWorld os).forCall (fun _ _ => 0) ⟨#[], #[.slice none 0 0], []⟩).memory Tryd.f4.params.toList Rows.tableNamesSpec.vars false #[Value.slice none 0 0].toList 8 = some ([.nil], [], places) :=
  ⟨[], by kernel_rfl⟩

set_option maxRecDepth 100000 in
theorem lifted (os : Os) (started : os.Started) (H : Type) (enc : TypeId × Value → H) (F : Stop.Interp) :
    ReturnsInHanded {} Tryd.checked os 4 .any ((OpenSpec.ofChange Rows.tableNamesSpec).preRow enc Tryd.prog Tryd.f4 Rows.tableNamesRow.domain false Rows.tableNamesRow.laid) (((OpenSpec.ofChange Rows.tableNamesSpec).at F).post enc Tryd.prog Tryd.f4 false true false false) := by
  obtain ⟨places, hx⟩ := reads os enc
  refine returnsInHanded_of_row (C := Tryd.checked) (s := OpenSpec.ofChange Rows.tableNamesSpec) own started (by kernel_rfl) Tryd.func4
    (witness_row_at (enc := enc) (C := Tryd.checked) false (laidWorld os) #[.slice none 0 0] rfl (by kernel_rfl) (by kernel_rfl) (by kernel_rfl)
      (OpenSpec.preRow_of_cond 8 hx (by kernel_rfl) (fun k hk => by cases hk) (by kernel_rfl) (laid_met os))) ?_
  intro W base args ds gs before hval hW _ _ hR hL _ _
  exact contract H enc W args ds gs before hval hW hR hL

theorem said : Rows.TableNamesSaid :=
  OpenClaim.holds_of_cond 4 Tryd.f4 rfl rfl rfl rfl rfl rfl rfl ⟨rfl, rfl, rfl, rfl, rfl⟩ rfl rfl rfl rfl rfl (by kernel_rfl) Tryd.func4 (by kernel_rfl)
    (of_decide_eq_true (by kernel_rfl)) (by unfold Func.isWrapper; first | (rw [if_pos (by decide +kernel)]; kernel_rfl) | (rw [if_neg (by decide +kernel)]; exact ⟨rfl, rfl⟩))
    (fun os started H enc _ F => by rw [OpenClaim.pre_eq_preRow]; exact lifted os started H enc F)

theorem plain (f : FuncId) (fn : Func) (hf : Tryd.pinned.checked.prog.funcNamed "pleach/pleachlaw20.TableNames" = some f) (hfn : Tryd.pinned.checked.prog.funcs[f]? = some fn) :
    false = Tryd.pinned.checked.prog.looks [] ∧ ∀ (j : Nat) t, fn.params[j]? = some t → Tryd.pinned.checked.prog.wantsStandIn t = false := by
  obtain rfl : f = 4 := Option.some.inj ((show Tryd.prog.funcNamed "pleach/pleachlaw20.TableNames" = some 4 by kernel_rfl).symm.trans hf) |>.symm
  obtain rfl : fn = Tryd.f4 := (Option.some.inj (Tryd.func4.symm.trans hfn)).symm
  refine ⟨by kernel_rfl, fun j t ht => ?_⟩
  rw [Tryd.params4] at ht
  obtain rfl : t = 22 := by simpa using Array.mem_of_getElem? ht
  exact (show Tryd.prog.wantsStandIn 22 = false by kernel_rfl)

/-- THE CARD -/
theorem card : Rows.TableNamesCardSaid :=
  Claim7.holds_tied_plain_at .later [] _ _ _ _ said (fun _ h => by cases h) (by kernel_rfl) (fun _ h => by cases h) tableNames_row_tie rfl ⟨rfl, rfl⟩ (by kernel_rfl) rfl plain (by kernel_rfl)
end Go.Proofs.YtkiccfdfbmiooaaDoor.fnTableNames
namespace Go.Proofs.YtkiccfdfbmiooaaDoor
theorem tableNames_holds : Rows.TableNamesCardSaid := fnTableNames.card
end Go.Proofs.YtkiccfdfbmiooaaDoor
