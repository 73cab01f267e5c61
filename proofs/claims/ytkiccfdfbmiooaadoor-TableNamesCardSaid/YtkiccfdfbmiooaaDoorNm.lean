/-
  Name, whatever it answers.
-/
import Derived.Test.YtkiccfdfbmiooaaDoorLo
namespace Go.Proofs.YtkiccfdfbmiooaaDoor
open Go Go.RowKit

section
variable {w w' : World} {B T bp bn last c : Nat} {D1 D2 : DataW Unit} {N : Int → ByteArray}
/-- Name, whatever it answers. -/
def NameAll (w : World) (B T bp bn last c : Nat) (D1 : DataW Unit) (pid : Int) (s : ByteArray) (e : Ending) (w' : World) : Prop :=
  ∃ (ec : Int) (c' : Nat) (D2' : DataW Unit) (N' : Int → ByteArray), e = .returned (.int .i64 ec) ∧ TabOK w' B T bp bn last c' D1 D2' N' ∧ Below B w w' ∧ c' ≤ c + 1 ∧
    ((ec = 0 ∧ Maps.has D2' (keyS s) = true ∧ D2'.atKey (keyS s) (.lit (.int .i64 0)) = .lit (.int .i64 pid)) ∨ ec = 2 ∨ ec = 4 ∨ ec = 91)
theorem name_all (h : TabOK w B T bp bn last c D1 D2 N) (hB : B ≤ w.heap.size) (hL : Letters w) (hc : c < maxLen) {pid : Int} {s : ByteArray} (hw : (Lit.int .i64 pid).wf = true) (hs : s.size ≤ 140737488351232) :
    Calls Tryd.prog 12 #[.pointer (some ⟨T, 0, none⟩), .int .i64 pid, .string s] w (NameAll w B T bp bn last c D1 pid s) := by
  have same : ∀ (ec : Int) (e : Ending) (w' : World), Ret w (.int .i64 ec) e w' → (ec = 2 ∨ ec = 4 ∨ ec = 91) → NameAll w B T bp bn last c D1 pid s e w' := by
    rintro ec e w' ⟨rfl, hb⟩ hec
    exact ⟨ec, c, D2, N, rfl, h.below hb (Nat.le_refl _), hb.mono hB, Nat.le_succ c, .inr hec⟩
  cases hp : Maps.has D1 (keyI pid) with
  | false => exact (name_no h hw hs hp).mono fun e w' hr => same 4 e w' hr (.inr (.inl rfl))
  | true =>
    cases hm : mayB s.data.toList with
    | false => exact (name_bad h hL hw hs hp hm).mono fun e w' hr => same 2 e w' hr (.inl rfl)
    | true =>
      by_cases hz : (N pid).size = 0
      · cases ht : Maps.has D2 (keyS s) with
        | true => exact (name_twice h hL hw hs hp hm hz ht).mono fun e w' hr => same 91 e w' hr (.inr (.inr rfl))
        | false =>
          refine (name_ok h hB hL hc hw hs hp hm hz ht).mono ?_
          rintro e w' ⟨rfl, h1, h2⟩
          exact ⟨0, c + 1, _, _, rfl, h1, h2, Nat.le_refl _, .inl ⟨rfl, Maps.has_put_same h.m2.isMap (isK_S s) _, Maps.atKey_put_same h.m2.isMap (isK_S s) _ _⟩⟩
      · exact (name_had h hL hw hs hp hm hz).mono fun e w' hr => same 2 e w' hr (.inl rfl)
end
end Go.Proofs.YtkiccfdfbmiooaaDoor
