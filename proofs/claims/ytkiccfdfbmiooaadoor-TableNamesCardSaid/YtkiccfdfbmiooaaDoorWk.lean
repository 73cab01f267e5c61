/-
  wakes: true.
-/
import Derived.Test.YtkiccfdfbmiooaaDoorTa
namespace Go.Proofs.YtkiccfdfbmiooaaDoor
open Go Go.RowKit

section
variable {w w' : World} {B T bp bn last c : Nat} {D1 D2 : DataW Unit} {N : Int → ByteArray}
theorem add_pos {parent : Int} {e : Ending} (h : AddPost w B T bp bn last c D1 D2 N parent e w') (hp : 0 ≤ parent) (m : Int) (l' : Nat) (hm : (last : Int) + 1 = m) (hl : last + 1 = l') :
    ∃ b : Nat, e = .returned (.tuple #[.int .i64 m, .int .i64 0]) ∧ TabOK w' B T bp bn l' c (D1.put (keyI m) (.ptr (.lit (.int .i64 b)))) D2 (fun p => if p = m then ⟨#[]⟩ else N p) ∧ Below B w w' := by
  subst hm; subst hl
  rcases h with ⟨h1, _⟩ | ⟨_, h2⟩
  · omega
  · exact h2
theorem TabOK.small (h : TabOK w B T bp bn last c D1 D2 N) (hl : last < 32) : Maps.size D1 < 32 := Nat.lt_of_le_of_lt h.m1.size_le hl
abbrev z5 : List Value := [.int .i8 0, .int .i64 0, .string ⟨#[]⟩, .string ⟨#[]⟩, .slice none 0 0]
theorem fr_zero (w : World) (B : Nat) : FrOK w B #[.int .i8 0, .int .i64 0, .int .i64 0, .slice none 0 0, .slice none 0 0, .slice none 0 0, .slice none 0 0, .int .i64 0, .int .i8 0, .int .i64 0, .int .i64 0, .int .i64 0, .int .i64 0,
    .int .i8 0, .int .i64 0, .string ⟨#[]⟩, .string ⟨#[]⟩, .slice none 0 0, .int .i8 0, .int .i64 0, .string ⟨#[]⟩, .string ⟨#[]⟩, .slice none 0 0, .int .i8 0, .int .i64 0, .string ⟨#[]⟩, .string ⟨#[]⟩, .slice none 0 0,
    .slice none 0 0, .int .i8 0, .int .i64 0, .int .i64 0, .slice none 0 0, .slice none 0 0, .slice none 0 0] :=
  ⟨rfl, by simp [Value.oneCell'], .inl rfl, .inl rfl, .inl rfl, .inl rfl, .inl rfl, .inl rfl, .inl rfl⟩

theorem has_one {D : DataW Unit} (h : Maps.IsMap D) (p1 p2 p3 : Nat) : Maps.has ((((D.put (keyI 1) (.ptr (.lit (.int .i64 p1)))).put (keyI 2) (.ptr (.lit (.int .i64 p2)))).del (keyI 2)).put (keyI 3) (.ptr (.lit (.int .i64 p3)))) (keyI 1) = true := by
  rw [Maps.has_put_other (fun e => absurd (keyI_inj e) (by decide)), Maps.has_del_other (fun e => absurd (keyI_inj e) (by decide)), Maps.has_put_other (fun e => absurd (keyI_inj e) (by decide))]
  exact Maps.has_put_same h (isK_I 1) _
set_option maxRecDepth 100000 in
set_option maxHeartbeats 1600000 in
theorem wakes_any (w : World) (hL : Letters w) : Calls Tryd.prog 6 #[] w (IsPost w true) := by
  have hlt := hL.lt
  go_enter Tryd.func6, Tryd.ntmps6
  go_wp2_with (first
    | (go_at_call 7; go_must (refine (new_tab w).mono ?_); rintro e w1 ⟨T, bp, bn, rfl, h1, b1⟩)
    | (go_at_call 8; go_must (first | (refine (add_any h4 b4.size (by omega) (fr_zero _ _) (h4.small (by omega))).mono ?_; rintro e w5 hp5; obtain ⟨p3, rfl, h5, b5'⟩ := add_pos hp5 (by omega) 3 3 rfl rfl; have b5 := b4.trans b5') | (refine (add_any h2 b2.size (by omega) (fr_zero _ _) (h2.small (by omega))).mono ?_; rintro e w3 hp3; obtain ⟨p2, rfl, h3, b3'⟩ := add_pos hp3 (by omega) 2 2 rfl rfl; have b3 := b2.trans b3') | (refine (add_any h1 b1.size (by omega) (fr_zero _ _) (h1.small (by omega))).mono ?_; rintro e w2 hp2; obtain ⟨p1, rfl, h2, b2'⟩ := add_pos hp2 (by omega) 1 1 rfl rfl; have b2 := b1.trans b2')))
    | (go_at_call 10; go_must (refine (drop_yes h3 b3.size (pid := 2) (by decide) (Maps.has_put_same h2.m1.isMap (isK_I 2) _)).mono ?_); rintro e w4 ⟨rfl, h4, b4', _⟩; have b4 := b3.trans b4')
    | (go_at_call 12; go_must (first | (refine (name_twice h6 (hL.below b6 hlt) (by decide) (by decide) hone (by decide) (by decide) (Maps.has_put_same h5.m2.isMap (isK_S _) _)).mono ?_; rintro e w7 ⟨rfl, b7'⟩; have b7 := b6.trans (b7'.mono b6.size)) | (refine (name_ok h5 b5.size (hL.below b5 hlt) (by unfold maxLen; omega) (by decide) (by decide) (Maps.has_put_same h4.m1.isMap (isK_I 3) _) (by decide) (by decide) rfl).mono ?_; rintro e w6 ⟨rfl, h6, b6'⟩; have b6 := b5.trans b6'; have hone := has_one h1.m1.isMap p1 p2 p3)))
    )
  go_ret
  exact ⟨rfl, b7⟩
end
end Go.Proofs.YtkiccfdfbmiooaaDoor
