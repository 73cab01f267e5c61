/-
  Inside a fence: a struct's block loaded and stored whole; append onto a slice without room.
-/
import Derived.Test.YtkiccfdfbmiooaaDoorAp
import Derived.OwnWalkIn
import Derived.BigFrameIn
import Derived.ArgAppend
namespace Go.Proofs.YtkiccfdfbmiooaaDoor
open Go Go.RowKit

section
variable {P : Program} {F : Fence} {nF : Nat}
theorem wpListIn_store_b {ops : Array Oper} {rest : List Oper} {a : Act} {w : World} {Q : Exit → Act → World → Prop} {dst : Option Tmp} {tp : TypeId} {pos : String} {after : Array Edge} {ty : TypeId} {x y : Operand}
    (g : Nat) (t : TypeId) (cs cs' : Array Value) (hx : a.eval x = .pointer (some ⟨g, 0, none⟩)) (hy : a.eval y = .agg cs') (hb : Blk w g t cs)
    (hi : (P.info? ty).map (·.size) = some cs'.size) (hsz : cs.size = cs'.size) (h1 : cs'.all (·.oneCell') = true)
    (h : ∀ w' : World, Blk w' g t cs' → w.grownBy w' (some g) → w'.heap.size = w.heap.size → wpListIn F nF P ops Q rest (a.put dst undef) w') : wpListIn F nF P ops Q (⟨dst, .store ty x y, tp, pos, after, none⟩ :: rest) a w :=
  wpListIn_plain rfl fun K hK => by
    unfold Oper.wpIn
    refine ⟨by simp [Oper.about], ?_⟩
    rw [Oper.semAt_plain F _ _ (by intro c hc'; cases hc')]
    unfold execOp
    simp only [hx, hy, Instr.storeAt, Instr.sureAddr, Sem.run_bind, Sem.run_pure, Result.andThen_ok, run_storeVar_row w g t ty cs cs' hb hi hsz h1]
    exact hK _ _ (h (w.setRow g cs') (setRow_heap w g cs cs' t (0, 0) hb) ⟨rfl, rfl, rfl, by simp, fun k _ hne => setRow_other w g k cs' (fun e => hne (by rw [e]))⟩ (by simp))
theorem wpListIn_load_w {ops : Array Oper} {rest : List Oper} {a : Act} {w : World} {Q : Exit → Act → World → Prop} {dst : Option Tmp} {tp : TypeId} {pos : String} {after : Array Edge} {ty : TypeId} {x : Operand} {gd : Option (Nat × Bool)}
    (hw : Region.wanted ⟨dst, .load ty x, tp, pos, after, gd⟩ (yielded ops a.tmps) = true)
    (g : Nat) (t : TypeId) (cs : Array Value) (fs : Array Field) (hx : a.eval x = .pointer (some ⟨g, 0, none⟩)) (hb : Blk w g t cs) (hu : P.underlying ty = some (.struct fs)) (hi : (P.info? ty).map (·.size) = some cs.size)
    (h : wpListIn F nF P ops Q rest (a.put dst (.agg cs)) w) : wpListIn F nF P ops Q (⟨dst, .load ty x, tp, pos, after, gd⟩ :: rest) a w :=
  wpListIn_step fun K hK => by
    rw [if_pos hw]
    unfold Oper.wpIn
    refine ⟨by simp [Oper.about], ?_⟩
    rw [Oper.semAt_plain F _ _ (by intro c hc'; cases hc')]
    unfold execOp
    simp only [hx, Instr.loadAt, Instr.sureAddr, Sem.run_bind, Sem.run_pure, Result.andThen_ok, run_loadVar_row w g t ty cs (0, 0) (.struct fs) hb hu rfl hi]
    exact hK _ _ h
/-- append onto a slice that has no room: a new row of the call's own. -/
theorem wpListIn_append_grows {ops : Array Oper} {rest : List Oper} {o : Oper} {a : Act} {w : World} {Q : Exit → Act → World → Prop}
    (hg : o.guard = none) (s x : Operand) (t : TypeId) (hop : o.op = Op.call { callee := Callee.builtin Builtin.append, args := #[s, x], argTypes := #[t, t] })
    (e : TypeId) (i : TypeInfo) (z : Value) (size bytes : Nat) (h1 : P.underlying t = some (.slice e)) (h2 : P.info? e = some i) (h3 : i.zero = some z) (h4 : i.size = size) (h5 : i.bytes = bytes) (h6 : z.cells.size = size) (h7 : 0 < size)
    (ao : Option Addr) (n cap : Nat) (olds : List Value) (hs : a.eval s = .slice ao n cap) (hnone : ao = none → n = 0 ∧ cap = 0) (hlo : olds.length = n * size) (holds : ∀ b, ao = some b → ∀ j u, olds[j]? = some u → w.cell? (b.add j) = some u)
    (ad : Addr) (m c : Nat) (news : List Value) (hx : a.eval x = .slice (some ad) m c) (hn : news.length = m * size) (hc : ∀ j u, news[j]? = some u → w.cell? (ad.add j) = some u) (h1c : ∀ u ∈ news, u.oneCell' = true)
    (hfull : cap < n + m) (b1 : n + m ≤ maxLen) (b2 : (n + m) * bytes ≤ 140737488355328)
    (hK : ∀ v' w', w'.ownsRow w.heap.size e size v' (n + m) (olds ++ news) → w.grownBy w' none → wpListIn F nF P ops Q rest (a.put o.dst v') w') :
    wpListIn F nF P ops Q (o :: rest) a w := by
  refine wpListIn_plain hg fun K hK' => ?_
  have key : ∃ v' w', (Builtin.append_ #[t, t] o.type #[.slice ao n cap, .slice (some ad) m c]).run P w = .ok v' w' ∧ w'.ownsRow w.heap.size e size v' (n + m) (olds ++ news) ∧ w.grownBy w' none := by
    cases ao with
    | some b => exact run_append_arg_grows (P := P) w t o.type e i z size bytes h1 h2 h3 h4 h5 h6 h7 b n cap olds hlo (holds b rfl) ad m c news hn hc hfull b1 b2
    | none =>
      obtain ⟨rfl, rfl⟩ := hnone rfl
      obtain rfl : olds = [] := List.eq_nil_of_length_eq_zero (by simpa using hlo)
      obtain ⟨v', w', hrun, r1, r2, _⟩ := run_append_own (P := P) w w.heap.size t o.type e i z size bytes h1 h2 h3 h4 h5 h6 h7 (.slice none 0 0) 0 [] (World.ownsRow_nil w _ e size) ad m c news hn hc h1c b1 b2 (Nat.le_refl _)
      exact ⟨v', w', hrun, r1, r2⟩
  obtain ⟨v', w', hr, r1, r2⟩ := key
  unfold Oper.wpIn
  refine ⟨by simp [Oper.about, hop, resolve, Target.leads, Sem.run_pure], ?_⟩
  rw [Oper.semAt_plain F _ _ (by rw [hop]; intro c hc'; cases hc')]
  simp [execOp, hop, resolve, invoke, builtin, hs, hx, hr, Result.andThen]
  exact hK' _ _ (hK v' w' r1 r2)
end
end Go.Proofs.YtkiccfdfbmiooaaDoor
