/-
  A region that draws its order: loads beside calls that make memory, and stores that wait for all of them. After the library's law on loads that may be taken first (Derived/OrdersHeld.lean): here the condition S need hold only as long as operation k (the first store) has not come up.
-/
import Derived.OrdersHeld
import Derived.StillTail
import Derived.Tactics
import Derived.KernelRfl
import Derived.Test.YtkiccfdfbmiooaaDoorAp
namespace Go.Proofs.YtkiccfdfbmiooaaDoor
open Go

section
variable {P : Program} {ops : Array Oper} {Q : Exit → Act → World → Prop} {md : Region.Mode} {S : World → Prop} {k : Nat}

/-- What has come up is closed: whatever one of them waits for has come up. -/
def ClosedL (md : Region.Mode) (ops : Array Oper) (listed : Array Bool) : Prop :=
  ∀ j oj, ops[j]? = some oj → listed.getD j false = true → ∀ e ∈ oj.after, Region.binds md e = true → listed.getD e.on false = true
def closedB (md : Region.Mode) (ops : Array Oper) (listed : Array Bool) : Bool :=
  (List.range ops.size).all fun j => !listed.getD j false || ((ops[j]?).map fun o => o.after.all fun e => !Region.binds md e || listed.getD e.on false).getD true
theorem closedB_spec {listed : Array Bool} (h : closedB md ops listed = true) : ClosedL md ops listed := by
  intro j oj hj hl e he hb
  have hlt := (Array.getElem?_eq_some_iff.1 hj).1
  have h1 := List.all_eq_true.1 h j (List.mem_range.2 hlt)
  simp only [hl, hj, Bool.not_true, Bool.false_or, Option.map_some, Option.getD_some] at h1
  have h2 := Array.all_eq_true'.1 h1 e he
  simpa [hb] using h2
theorem ClosedL.set {listed : Array Bool} {i : Nat} (h : ClosedL md ops listed) (hi : i ∈ Region.ready md ops listed) : ClosedL md ops (listed.setIfInBounds i true) := by
  obtain ⟨_, oi, hoi, hall⟩ := mem_ready.1 hi
  intro j oj hj hl e he hb
  by_cases hij : i = j
  · subst hij
    have : oj = oi := Option.some.inj (hj.symm.trans hoi)
    subst this
    exact getD_set_true (hall e he hb)
  · rw [getD_set_ne false hij] at hl
    exact getD_set_true (h j oj hj hl e he hb)
/-- k waits for i, or for somebody who waits for i, and so on, n + 1 edges far. -/
def waitsT (md : Region.Mode) (ops : Array Oper) : Nat → Nat → Nat → Bool
  | 0, k, i => Region.waitsFor md ops k i
  | n + 1, k, i => Region.waitsFor md ops k i || (List.range ops.size).any fun m => Region.waitsFor md ops k m && waitsT md ops n m i
theorem waitsT_not_listed {listed : Array Bool} {i : Nat} (hc : ClosedL md ops listed) (hun : listed.getD i true = false) : ∀ (n k : Nat), waitsT md ops n k i = true → listed.getD k false = true → False := by
  have direct : ∀ k, Region.waitsFor md ops k i = true → listed.getD k false = true → False := by
    intro k h hl
    obtain ⟨ok, hok, e, he, hb, hon⟩ := Region.waitsFor_spec h
    have h1 := hc k ok hok hl e he hb
    rw [hon, getD_both hun] at h1
    cases h1
  intro n
  induction n with
  | zero => exact direct
  | succ n ih =>
    intro k h hl
    simp only [waitsT, Bool.or_eq_true] at h
    rcases h with h | h
    · exact direct k h hl
    · obtain ⟨m, _, hm⟩ := List.any_eq_true.1 h
      simp only [Bool.and_eq_true] at hm
      obtain ⟨ok, hok, e, he, hb, hon⟩ := Region.waitsFor_spec hm.1
      have h1 := hc k ok hok hl e he hb
      rw [hon] at h1
      exact ih m hm.2 h1
def waits2 (md : Region.Mode) (ops : Array Oper) (k i : Nat) : Bool := waitsT md ops 6 k i
theorem waits2_not_ready {listed : Array Bool} {k i : Nat} (h : waits2 md ops k i = true) (hc : ClosedL md ops listed) (hun : listed.getD i true = false) : k ∉ Region.ready md ops listed := by
  intro hr
  obtain ⟨_, ok, hok, hall⟩ := mem_ready.1 hr
  simp only [waits2, waitsT, Bool.or_eq_true] at h
  rcases h with h | h
  · obtain ⟨ok', hok', e, he, hb, hon⟩ := Region.waitsFor_spec h
    have : ok' = ok := Option.some.inj (hok'.symm.trans hok)
    subst this
    have h1 := hall e he hb
    rw [hon, getD_both hun] at h1
    cases h1
  · obtain ⟨m, _, hm⟩ := List.any_eq_true.1 h
    simp only [Bool.and_eq_true] at hm
    obtain ⟨ok', hok', e, he, hb, hon⟩ := Region.waitsFor_spec hm.1
    have : ok' = ok := Option.some.inj (hok'.symm.trans hok)
    subst this
    have h1 := hall e he hb
    rw [hon] at h1
    exact waitsT_not_listed hc hun 5 m (by simpa only [waitsT, Bool.or_eq_true] using hm.2) h1

/-- Whatever order is picked from here on, and S holds behind each operation that is carried out while k has not come up. -/
def wpAnyK (P : Program) (md : Region.Mode) (ops : Array Oper) (Q : Exit → Act → World → Prop) (S : World → Prop) (k : Nat) : Nat → Array Bool → Act → World → Prop
  | 0, listed, a, w => Region.ready md ops listed = [] ∧ Q .normal a w
  | fuel + 1, listed, a, w =>
    (Region.ready md ops listed = [] → Q .normal a w) ∧
    ∀ i ∈ Region.ready md ops listed, wpOp P ops Q i (fun a' w' => ((listed.setIfInBounds i true).getD k true = false → S w') ∧ wpAnyK P md ops Q S k fuel (listed.setIfInBounds i true) a' w') a w

theorem wpAny_of_K : ∀ (fuel : Nat) (listed : Array Bool) (a : Act) (w : World), wpAnyK P md ops Q S k fuel listed a w → wpAny P md ops Q fuel listed a w
  | 0, _, _, _, h => h
  | fuel + 1, _, _, _, h => ⟨h.1, fun i hi => wpOp_mono (fun a' w' h' => wpAny_of_K fuel _ a' w' h'.2) (h.2 i hi)⟩

theorem wpAnyK_first {i : Nat} {oi : Oper} {v : Value} (hi : ops[i]? = some oi) (hsel : ∀ (j : Nat) (o : Oper) cs b, ops[j]? = some o → o.op ≠ .select cs b)
    (hQ : ∀ c a w, Q (.panic c) (a.put oi.dst v) w → Q (.panic c) a w) (hw : waits2 md ops k i = true) :
    ∀ (fuel : Nat) (listed : Array Bool) (a : Act) (w : World), listed.getD k true = false → ClosedL md ops listed →
      (∀ j oj, ops[j]? = some oj → j ≠ i → listed.getD j true = false → (∀ e ∈ oj.after, Region.binds md e = true → e.on ≠ i) → oi.apart ops oj = true) →
      i ∈ Region.ready md ops listed → YieldsIf P ops S oi v a → S w →
      wpAnyK P md ops Q S k fuel (listed.setIfInBounds i true) (a.put oi.dst v) w → wpAnyK P md ops Q S k (fuel + 1) listed a w := by
  intro fuel
  induction fuel with
  | zero =>
    intro listed a w _ _ _ hr hy hS H
    refine ⟨fun h => (by rw [h] at hr; cases hr), fun j hj => ?_⟩
    by_cases hji : j = i
    · subst hji; exact hy.wpOp hi hS ⟨fun _ => hS, H⟩
    · have := ready_mono hj hji
      rw [H.1] at this
      cases this
  | succ fuel ih =>
    intro listed a w hk0 hcl hfree hr hy hS H
    have hun := (mem_ready.1 hr).1
    refine ⟨fun h => (by rw [h] at hr; cases hr), fun j hj => ?_⟩
    by_cases hji : j = i
    · subst hji; exact hy.wpOp hi hS ⟨fun _ => hS, H⟩
    · have h1 := H.2 j (ready_mono hj hji)
      obtain ⟨hjun, oj, hoj, hall⟩ := mem_ready.1 hj
      have hnot : ∀ e ∈ oj.after, Region.binds md e = true → e.on ≠ i := fun e he hb heq => by
        have h1 := hall e he hb
        have h0 := (mem_ready.1 hr).1
        rw [heq] at h1
        rcases Nat.lt_or_ge i listed.size with h' | h'
        · simp [h'] at h0 h1; rw [h0] at h1; cases h1
        · simp [Array.getElem?_eq_none h'] at h1
      have hjk : j ≠ k := fun e => by subst e; exact waits2_not_ready hw hcl hun hj
      have h2 := wpOp_putIf hoj (hfree j oj hoj hji hjun hnot) (fun cs b => hsel i oi cs b hi) (fun cs b => hsel j oj cs b hoj) hQ hy h1
      have hfree' : ∀ k ok, ops[k]? = some ok → k ≠ i → (listed.setIfInBounds j true).getD k true = false →
          (∀ e ∈ ok.after, Region.binds md e = true → e.on ≠ i) → oi.apart ops ok = true := fun k ok hk hki hun hno => by
        refine hfree k ok hk hki ?_ hno
        by_cases hjk : j = k
        · subst hjk; exact hjun
        · rw [getD_set_ne true hjk] at hun; exact hun
      have hkj : (listed.setIfInBounds j true).getD k true = false := by rw [getD_set_ne true hjk]; exact hk0
      have hik : i ≠ k := fun e => by subst e; exact waits2_not_ready hw hcl hun hr
      refine wpOp_mono (fun a' w' h3 => ?_) h2
      have hS' : S w' := h3.2.1 (by rw [getD_set_ne true hjk, getD_set_ne true hik]; exact hk0)
      refine ⟨fun _ => hS', ih (listed.setIfInBounds j true) a' w' hkj (hcl.set hj) hfree' (ready_mono hr (Ne.symm hji)) h3.1 hS' ?_⟩
      rw [Array.setIfInBounds_comm _ _ hji]
      exact h3.2.2

/-- Take number i first. -/
theorem wpAnyK_take {i : Nat} {oi : Oper} {dst : Option Tmp} {v : Value} {fuel : Nat} {listed : Array Bool} {a : Act} {w : World} (hi : ops[i]? = some oi) (hd : oi.dst = dst)
    (hs : Region.noSelect ops = true) (hf : (Region.free md ops listed i && (Region.ready md ops listed).contains i && waits2 md ops k i && !listed.getD k true && closedB md ops listed) = true)
    (hQ : ∀ c a w, Q (.panic c) (a.put dst v) w → Q (.panic c) a w) (hy : YieldsIf P ops S oi v a) (hS : S w)
    (h : wpAnyK P md ops Q S k fuel (listed.setIfInBounds i true) (a.put dst v) w) : wpAnyK P md ops Q S k (fuel + 1) listed a w := by
  subst hd
  simp only [Bool.and_eq_true, Bool.not_eq_true'] at hf
  obtain ⟨⟨⟨⟨h1, h2⟩, h3⟩, h4⟩, h5⟩ := hf
  exact wpAnyK_first hi (Region.noSelect_spec hs) hQ h3 fuel listed a w h4 (closedB_spec h5) (Region.free_spec hi h1) (by simpa using h2) hy hS h

/-- Only number i may come up. -/
theorem wpAnyK_one {i : Nat} {o : Oper} {fuel : Nat} {listed : Array Bool} {a : Act} {w : World} (hr : Region.ready md ops listed = [i]) (ho : ops[i]? = some o) (hg : o.guard = none)
    (h : ∀ K : Act → World → Prop, (∀ a' w', S w' → wpAnyK P md ops Q S k fuel (listed.setIfInBounds i true) a' w' → K a' w') → o.wp P a w K Q) : wpAnyK P md ops Q S k (fuel + 1) listed a w := by
  refine ⟨fun h0 => (by rw [hr] at h0; cases h0), fun j hj => ?_⟩
  rw [hr] at hj
  have : j = i := by simpa using hj
  subst this
  unfold wpOp
  simp only [ho, Region.wanted, hg, if_true]
  exact .inl (h _ fun a' w' hS hW => ⟨fun _ => hS, hW⟩)

/-- Two may come up. -/
theorem wpAnyK_two {i i' : Nat} {o o' : Oper} {fuel : Nat} {listed : Array Bool} {a : Act} {w : World} (hr : Region.ready md ops listed = [i, i']) (ho : ops[i]? = some o) (ho' : ops[i']? = some o') (hg : o.guard = none) (hg' : o'.guard = none)
    (h : ∀ K : Act → World → Prop, (∀ a' w', S w' → wpAnyK P md ops Q S k fuel (listed.setIfInBounds i true) a' w' → K a' w') → o.wp P a w K Q)
    (h' : ∀ K : Act → World → Prop, (∀ a' w', S w' → wpAnyK P md ops Q S k fuel (listed.setIfInBounds i' true) a' w' → K a' w') → o'.wp P a w K Q) : wpAnyK P md ops Q S k (fuel + 1) listed a w := by
  refine ⟨fun h0 => (by rw [hr] at h0; cases h0), fun j hj => ?_⟩
  rw [hr] at hj
  have hj' : j = i ∨ j = i' := by simpa using hj
  unfold wpOp
  rcases hj' with rfl | rfl
  · simp only [ho, Region.wanted, hg, if_true]
    exact .inl (h _ fun a' w' hS hW => ⟨fun _ => hS, hW⟩)
  · simp only [ho', Region.wanted, hg', if_true]
    exact .inl (h' _ fun a' w' hS hW => ⟨fun _ => hS, hW⟩)

/-- The same, of an operation under a guard that holds. -/
theorem wpAnyK_oneG {i : Nat} {o : Oper} {fuel : Nat} {listed : Array Bool} {a : Act} {w : World} (hr : Region.ready md ops listed = [i]) (ho : ops[i]? = some o) (hg : Region.wanted o (yielded ops a.tmps) = true)
    (h : ∀ K : Act → World → Prop, (∀ a' w', S w' → wpAnyK P md ops Q S k fuel (listed.setIfInBounds i true) a' w' → K a' w') → o.wp P a w K Q) : wpAnyK P md ops Q S k (fuel + 1) listed a w := by
  refine ⟨fun h0 => (by rw [hr] at h0; cases h0), fun j hj => ?_⟩
  rw [hr] at hj
  have : j = i := by simpa using hj
  subst this
  unfold wpOp
  simp only [ho, hg, if_true]
  exact .inl (h _ fun a' w' hS hW => ⟨fun _ => hS, hW⟩)

/-- The tail, in its forced order, from k on. -/
theorem wpAnyK_seq : ∀ (l : List Oper) (n : Nat) (listed : Array Bool) (a : Act) (w : World), (∀ j, l[j]? = ops[n + j]?) →
    Region.seqB md ops l.length n listed = true → (listed.getD k true = true ∨ n = k) → listed.size = ops.size → wpList P ops Q l a w → wpAnyK P md ops Q S k l.length listed a w
  | [], _, _, _, _, _, hB, _, _, h => ⟨by simpa [Region.seqB] using hB, h⟩
  | o :: l, n, listed, a, w, hl, hB, hk, hsz, h => by
    have h0 : ops[n]? = some o := by simpa using (hl 0).symm
    simp only [List.length_cons, Region.seqB, Bool.and_eq_true, decide_eq_true_eq] at hB
    refine ⟨fun h1 => (by rw [hB.1] at h1; cases h1), fun i hi => ?_⟩
    rw [hB.1] at hi
    have hik : i = n := by simpa using hi
    subst hik
    have hn : i < listed.size := by rw [hsz]; exact (Array.getElem?_eq_some_iff.1 h0).1
    have hk' : (listed.setIfInBounds i true).getD k true = true := by
      by_cases e : i = k
      · subst e; simp [hn]
      · rw [getD_set_ne true e]
        rcases hk with hk | hk
        · exact hk
        · exact absurd hk e
    have hw : wpOp P ops Q i (wpList P ops Q l) a w := by unfold wpOp; simp only [h0]; exact h
    exact wpOp_mono (fun a' w' h' => ⟨fun h1 => (by rw [hk'] at h1; cases h1), wpAnyK_seq l (i + 1) _ a' w' (fun j => by have := hl (j + 1); simpa [Nat.add_assoc, Nat.add_comm 1 j] using this) hB.2 (.inl hk') (by simpa using hsz) h'⟩) hw

/-- The beginning. -/
theorem wp_region_K {id : Nat} {a : Act} {w : World} (S : World → Prop) (k : Nat) (hm : P.follows .mixedOrders = true) (hS : S w.drew)
    (h : S w.drew → wpAnyK P .any ops Q S k ops.size (Array.replicate ops.size false) a w.drew) : (Code.region id ops true).wp P Q a w :=
  wp_region_any hm (wpAny_of_K _ _ _ _ (h hS))

/-- The tail of a region that is written out: from number n = k on. -/
theorem wpAnyK_tail {l : List Oper} {n g : Nat} {listed : Array Bool} {a : Act} {w : World} (hg : g = l.length - n) (hB : Region.seqB md l.toArray g n listed = true) (hsz : listed.size = l.length)
    (h : wpList P l.toArray Q (l.drop n) a w) : wpAnyK P md l.toArray Q S n g listed a w := by
  have := wpAnyK_seq (S := S) (k := n) (md := md) (ops := l.toArray) (Q := Q) (l.drop n) n listed a w (fun j => by simp [List.getElem?_drop]) (by rw [List.length_drop, ← hg]; exact hB) (.inr rfl) (by simpa using hsz) h
  rwa [List.length_drop, ← hg] at this

theorem run_load_blk (w : World) (g : Nat) (t ty : TypeId) (cs : Array Value) (fs : Array Field) (hb : Blk w g t cs) (hu : P.underlying ty = some (.struct fs)) (hi : (P.info? ty).map (·.size) = some cs.size) :
    (Instr.loadAt ty (.pointer (some ⟨g, 0, none⟩))).run P w = .ok (.agg cs) w := by
  simp only [Instr.loadAt, Instr.sureAddr, Sem.run_bind, Sem.run_pure, Result.andThen_ok, run_loadVar_row w g t ty cs (0, 0) (.struct fs) hb hu rfl hi]
/-- A block whole, loaded first. -/
theorem yieldsIf_load_blk {o : Oper} {a : Act} (hw : Region.wanted o (yielded ops a.tmps) = true) (ty : TypeId) (x : Operand) (ho : o.op = .load ty x) (g : Nat) (hx : a.eval x = .pointer (some ⟨g, 0, none⟩))
    (t : TypeId) (cs : Array Value) (fs : Array Field) (hS : ∀ w, S w → Blk w g t cs) (hu : P.underlying ty = some (.struct fs)) (hi : (P.info? ty).map (·.size) = some cs.size) : YieldsIf P ops S o (.agg cs) a :=
  Or.inl ⟨hw, fun w h => by
    unfold execOp
    simp only [ho, hx, run_load_blk w g t ty cs fs (hS w h) hu hi, Sem.run_bind, Sem.run_pure, Result.andThen_ok]⟩
end
end Go.Proofs.YtkiccfdfbmiooaaDoor
