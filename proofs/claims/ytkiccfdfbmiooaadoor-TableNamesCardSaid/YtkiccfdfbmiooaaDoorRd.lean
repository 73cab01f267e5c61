/-
  Readable arguments, whatever the program: a value that reads as data ('DataW.trod'), within the form's reach, is 'Rd': its cells lie there, of their kinds, its slices are readable element by element. Conditions: no pointer, map, interface or function among the types.
-/
import Derived.Deep.Slices
import Derived.ChangeSame
import Derived.Below
import Derived.Carry
import GoSem.ClaimJoined
namespace Go.Proofs.YtkiccfdfbmiooaaDoor
open Go Go.RowKit Go.ChangeShapes Go.WideShapes Go.Deep

/-- READABLE: the cells cs of a value of type t; slices with elements lie below block B. -/
def Rd (P : Program) (w : World) (B : Nat) : Nat → TypeId → List Value → Prop
  | 0, _, _ => False
  | n + 1, t, cs =>
    match P.underlying t with
    | some .bool => ∃ b, cs = [.bool b]
    | some (.int k) => ∃ z, cs = [.int k z] ∧ (Lit.int k z).wf = true
    | some .string => ∃ s : ByteArray, cs = [.string s] ∧ s.size ≤ reachBytes
    | some (.slice e) => cs = [.slice none 0 0] ∨ ∃ a len cap, cs = [.slice (some a) len cap] ∧ (0 < len → a.block < B) ∧ len ≤ cap ∧ cap ≤ maxLen ∧ len * P.bytesOf e ≤ reachBytes ∧
        ∀ i, i < len → ∃ cs', cs'.length = P.cellsOf e ∧ (∀ j, j < P.cellsOf e → w.cell? (a.add (i * P.cellsOf e + j)) = cs'[j]?) ∧ Rd P w B n e cs'
    | some (.struct fs) => cs.length = P.cellsOf t ∧ ∀ (i : Nat) (f : Field), fs[i]? = some f → Rd P w B n f.type ((cs.drop f.offset).take (P.cellsOf f.type))
    | _ => False

section
variable {P : Program} {w w' : World} {B : Nat}

theorem cell_lt {w : World} {a : Addr} {v : Value} (h : w.cell? a = some v) : a.block < w.heap.size := block_lt_of_cell h

theorem addr_add_block (a : Addr) (n : Nat) : (a.add n).block = a.block := by unfold Addr.add; split <;> rfl

/-- What is readable stays so where nothing below B has turned. -/
theorem Rd.below (hb : Below B w w') : ∀ (n : Nat) (t : TypeId) (cs : List Value), Rd P w B n t cs → Rd P w' B n t cs
  | 0, _, _, h => h
  | n + 1, t, cs, h => by
    unfold Rd at h ⊢
    split at h
    · exact h
    · exact h
    · exact h
    · rcases h with h | ⟨a, len, cap, h1, h2, h3, h4, h5, h6⟩
      · exact .inl h
      · refine .inr ⟨a, len, cap, h1, h2, h3, h4, h5, fun i hi => ?_⟩
        obtain ⟨cs', g1, g2, g3⟩ := h6 i hi
        exact ⟨cs', g1, fun j hj => by rw [hb.cell (by rw [addr_add_block]; exact h2 (by omega))]; exact g2 j hj, Rd.below hb n _ _ g3⟩
    · exact ⟨h.1, fun i f hf => Rd.below hb n _ _ (h.2 i f hf)⟩
    · exact h

theorem Rd.more {n m : Nat} (hnm : n ≤ m) : ∀ {t : TypeId} {cs : List Value}, Rd P w B n t cs → Rd P w B m t cs := by
  induction n generalizing m with
  | zero => intro t cs h; exact h.elim
  | succ n ih =>
    intro t cs h
    obtain ⟨m, rfl⟩ : ∃ k, m = k + 1 := ⟨m - 1, by omega⟩
    have ih' := fun {t cs} => @ih m (by omega) t cs
    unfold Rd at h ⊢
    split at h
    · exact h
    · exact h
    · exact h
    · rcases h with h | ⟨a, len, cap, h1, h2, h3, h4, h5, h6⟩
      · exact .inl h
      · refine .inr ⟨a, len, cap, h1, h2, h3, h4, h5, fun i hi => ?_⟩
        obtain ⟨cs', g1, g2, g3⟩ := h6 i hi
        exact ⟨cs', g1, g2, ih' g3⟩
    · exact ⟨h.1, fun i f hf => ih' (h.2 i f hf)⟩
    · exact h
end

/-- A list of types that is closed: numbers, bools, strings, slices and structs of these. -/
def flatIn (P : Program) (S : List TypeId) : Bool := S.all fun t => match P.underlying t with
  | some .bool | some (.int _) | some .string => true
  | some (.slice e) => S.contains e && decide (0 < P.cellsOf e)
  | some (.struct fs) => fs.toList.all fun f => S.contains f.type
  | _ => false

section
variable {H : Type} {P : Program}

theorem weightsEach_mem : ∀ (ts : List TypeId) (ds : List (DataW H)) (i : Nat) (t : TypeId) (d : DataW H), ts[i]? = some t → ds[i]? = some d → ∀ x ∈ d.weights P t, x ∈ DataW.weightsEach P ts ds
  | [], _, i, _, _, h, _, _, _ => by simp at h
  | _ :: _, [], i, _, _, _, h, _, _ => by simp at h
  | t :: ts, d :: ds, 0, t', d', h, h', x, hx => by
    simp at h h'
    subst h h'
    simp [DataW.weightsEach, hx]
  | t :: ts, d :: ds, i + 1, t', d', h, h', x, hx => by
    simp at h h'
    have := weightsEach_mem ts ds i t' d' h h' x hx
    simp [DataW.weightsEach, this]

theorem weightsAll_mem : ∀ (e : TypeId) (ds : List (DataW H)) (d : DataW H), d ∈ ds → ∀ x ∈ d.weights P e, x ∈ DataW.weightsAll P e ds
  | _, [], _, h, _, _ => by simp at h
  | e, d :: ds, d', h, x, hx => by
    rcases List.mem_cons.1 h with rfl | h
    · simp [DataW.weightsAll, hx]
    · have := weightsAll_mem e ds d' h x hx
      simp [DataW.weightsAll, this]

theorem rd_of_trod {enc : TypeId × Value → H} {w : World} {S : List TypeId} (hS : flatIn P S = true) : ∀ (fuel : Nat) (t : TypeId) (cs : List Value) (d : DataW H) (ps : List MemPlace), t ∈ S →
    DataW.trod enc P w 0 (fun _ => true) true fuel t cs = some (d, ps) → (∀ x ∈ d.weights P t, x ≤ reachBytes) → Rd P w w.heap.size fuel t cs
  | 0, t, cs, d, ps, _, h, _ => by simp [DataW.trod] at h
  | fuel + 1, t, cs, d, ps, ht, h, hw => by
    have hc := List.all_eq_true.1 hS t ht
    unfold Rd
    cases hu : P.underlying t with
    | none => simp [hu] at hc
    | some td =>
      simp only [hu] at hc
      cases td with
      | bool =>
        obtain ⟨b, rfl, _⟩ := DataW.trod_bool hu h
        exact ⟨b, rfl⟩
      | int k =>
        obtain ⟨n, rfl, _, hwf⟩ := DataW.trod_int hu h
        exact ⟨n, rfl, hwf⟩
      | string =>
        obtain ⟨s, rfl, hx, _⟩ := DataW.trod_string hu h
        simp only [Prod.mk.injEq] at hx
        obtain ⟨rfl, _⟩ := hx
        refine ⟨s, rfl, ?_⟩
        have := hw s.data.toList.length (by simp [DataW.weights])
        rw [Array.length_toList] at this
        exact this
      | slice e =>
        simp only [Bool.and_eq_true, decide_eq_true_eq, List.contains_iff_mem] at hc
        rcases DataW.trod_slice hu h with ⟨rfl, _⟩ | ⟨a, len, cap, elems, rest, n, hn, rfl, hx, hb, hl, hm, hlen, hel, hsp, _⟩
        · exact .inl rfl
        · simp only [Nat.add_right_cancel_iff] at hn
          subst hn
          simp only [Prod.mk.injEq] at hx
          obtain ⟨rfl, _⟩ := hx
          have hwt : len * P.bytesOf e ≤ reachBytes := by
            have := hw ((elems.length + rest.length) * P.bytesOf e) (by simp [DataW.weights, hu])
            have h2 : len * P.bytesOf e ≤ (elems.length + rest.length) * P.bytesOf e := Nat.mul_le_mul_right _ (by omega)
            omega
          have helem : ∀ i, i < len → ∃ cs', w.cells? 0 (a.add (i * P.cellsOf e)) (P.cellsOf e) = some cs' ∧ Rd P w w.heap.size fuel e cs' := by
            intro i hlt
            have h0 := hel i hlt
            have hil : i < elems.length := by omega
            rw [List.getElem?_eq_getElem hil] at h0
            obtain ⟨cs', h1, h2⟩ := Option.bind_eq_some_iff.1 h0
            refine ⟨cs', h1, rd_of_trod hS fuel e cs' (elems[i]).1 (elems[i]).2 hc.1 h2 (fun x hx => hw x ?_)⟩
            simp only [DataW.weights, hu]
            have := weightsAll_mem (P := P) e (elems.map (·.1)) (elems[i]).1 (List.mem_map.2 ⟨_, List.getElem_mem hil, rfl⟩) x hx
            simp [this]
          refine .inr ⟨a, len, cap, rfl, fun h0 => ?_, hl, hm, hwt, fun i hlt => ?_⟩
          · obtain ⟨cs', h1, _⟩ := helem 0 h0
            obtain ⟨_, hlen', hcell⟩ := World.cells?_some h1
            have h3 := hcell 0 hc.2
            rw [Go.Deep.add_add] at h3
            have h4 : cs'[0]? = some (cs'[0]'(by omega)) := List.getElem?_eq_getElem _
            rw [h4] at h3
            have := cell_lt h3
            rwa [addr_add_block] at this
          · obtain ⟨cs', h1, h2⟩ := helem i hlt
            obtain ⟨_, hlen', hcell⟩ := World.cells?_some h1
            exact ⟨cs', hlen', fun j hj => by rw [← Go.Deep.add_add]; exact hcell j hj, h2⟩
      | struct fs =>
        obtain ⟨xs, n, hn, hx, hlen, hxl, hf⟩ := DataW.trod_struct hu h
        simp only [Nat.add_right_cancel_iff] at hn
        subst hn
        simp only [Prod.mk.injEq] at hx
        obtain ⟨rfl, _⟩ := hx
        refine ⟨hlen, fun i f hfi => ?_⟩
        have hil : i < fs.size := (Array.getElem?_eq_some_iff.1 hfi).1
        have hxi : xs[i]? = some (xs[i]'(by omega)) := List.getElem?_eq_getElem _
        have h1 := hf i f hfi
        rw [hxi] at h1
        refine rd_of_trod hS fuel f.type _ (xs[i]'(by omega)).1 (xs[i]'(by omega)).2 ?_ h1 (fun x hx => hw x ?_)
        · have := List.all_eq_true.1 hc f (by simpa using Array.mem_of_getElem? hfi)
          simpa using this
        · simp only [DataW.weights, hu]
          exact weightsEach_mem _ _ i f.type _ (by simp [hfi]) (by simp [hxi]) x hx
      | _ => simp at hc
end
end Go.Proofs.YtkiccfdfbmiooaaDoor
