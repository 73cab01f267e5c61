/-
  (*Table).All and what it hands back: the processes in the order of their pids, each told as Get tells it.
-/
import Derived.Test.YtkiccfdfbmiooaaDoorIt
import Derived.Test.YtkiccfdfbmiooaaDoorAi
import Derived.Test.YtkiccfdfbmiooaaDoorTa
import Derived.RangeFuncBox
import Derived.RangeFuncNested
import Derived.RangeFuncBound
import Derived.RangeFuncCalls
import Derived.RangeFuncLeaves
import Derived.Shelf.Abstract
import Derived.Shelf.RegionOpen
import Derived.WalkKit
import Derived.TacticsInMore
import Derived.LoopNIn
import Derived.LoopIn
namespace Go.Proofs.YtkiccfdfbmiooaaDoor
open Go Go.RowKit Go.Shelf Go.Proofs
attribute [local go_sem] Oper.semAt_some

section
variable {w w' : World} {B T bp bn last c : Nat} {D1 D2 : DataW Unit} {N : Int → ByteArray}

/-- The pids of a table, in order. -/
def Pids (D1 : DataW Unit) (zs : List Int) : Prop := zs.Pairwise (· < ·) ∧ (∀ x ∈ zs, Maps.has D1 (keyI x) = true) ∧ zs.length = Maps.size D1
theorem pids_of (h : TabOK w B T bp bn last c D1 D2 N) {ss : List Int} (hp : ss.Perm (intKeys D1)) : Pids D1 (ss.mergeSort (fun x y => decide (x ≤ y))) := by
  obtain ⟨es, rfl, hpw⟩ := h.m1.tidy law3
  obtain ⟨es', e1, hko⟩ := h.m1.keysOf
  obtain rfl : es = es' := by simpa using e1
  have hkey : ∀ p ∈ es, ∃ x, p.1 = .int .i64 x := fun p hp => by
    obtain ⟨v, hv⟩ := hko p hp
    obtain ⟨x, _, hx, _⟩ := Maps.keyOf_i64 Tryd.underlying3 hv
    exact ⟨x, hx⟩
  have hnd : (intKeys (.map es)).Nodup := by
    show (es.map fun p => Go.intOf p.1).Nodup
    refine List.pairwise_map.2 (hpw.imp_of_mem fun {p q} hp' hq' hne e => hne ?_)
    obtain ⟨a, ha⟩ := hkey p hp'
    obtain ⟨b, hb⟩ := hkey q hq'
    rw [ha, hb] at e ⊢
    exact congrArg _ e
  have tr : ∀ a b c : Int, decide (a ≤ b) = true → decide (b ≤ c) = true → decide (a ≤ c) = true := fun a b c h1 h2 => by simp only [decide_eq_true_eq] at *; omega
  have tot : ∀ a b : Int, (decide (a ≤ b) || decide (b ≤ a)) = true := fun a b => by simp only [Bool.or_eq_true, decide_eq_true_eq]; omega
  have hperm := (List.mergeSort_perm ss (fun x y => decide (x ≤ y))).trans hp
  refine ⟨?_, fun x hx => ?_, ?_⟩
  · have h1 := List.pairwise_mergeSort tr tot ss
    have h2 : (ss.mergeSort (fun x y => decide (x ≤ y))).Nodup := hperm.nodup_iff.2 hnd
    refine List.Pairwise.imp₂ (fun a b hab hne => ?_) h1 h2
    simp only [decide_eq_true_eq] at hab
    omega
  · have hx' := hperm.mem_iff.1 hx
    obtain ⟨p, hp', rfl⟩ := List.mem_map.1 hx'
    obtain ⟨a, ha⟩ := hkey p hp'
    rw [Maps.has_eq, List.any_eq_true]
    exact ⟨p, hp', by rw [ha]; simp [Lit.sameKey, Go.intOf]⟩
  · rw [hperm.length_eq, Maps.size_eq]
    simp [intKeys]

theorem sortsA (m : Nat) : AnyZI.SortsIn Tryd.prog sortedA_ren Fence.wide m :=
  ⟨fun blk off cap ss W hH hblk hsz => callsIn_wide.2 (AnyM.slices_Sort_int sortA blk off cap ss W hH hblk hsz),
   fun p cap W => callsIn_wide.2 (AnyM.slices_Sort_int_none sortA p cap W)⟩

/-- What a round of All is handed: the pid, the process's nine cells. -/
abbrev Told := Int × Array Value
abbrev encTold (x : Told) : Array Value := #[.int .i64 x.1, .agg x.2]

/-- What a round keeps: all blocks of cells but Bo, and all below nL but Bo. -/
structure Kept (Bo nL : Nat) (W W' : World) : Prop where
  os : W'.os = W.os
  tape : W'.tape = W.tape
  output : W'.output = W.output
  size : W.heap.size ≤ W'.heap.size
  keep : ∀ (k : Nat) (o : Obj), k ≠ Bo → W.heap[k]? = some o → (k < nL ∨ o.isCells = true) → W'.heap[k]? = some o
theorem Kept.refl (Bo nL : Nat) (W : World) : Kept Bo nL W W := ⟨rfl, rfl, rfl, Nat.le_refl _, fun _ _ _ h _ => h⟩
theorem Kept.trans {Bo nL : Nat} {a b d : World} (h : Kept Bo nL a b) (h' : Kept Bo nL b d) : Kept Bo nL a d :=
  ⟨h'.os.trans h.os, h'.tape.trans h.tape, h'.output.trans h.output, Nat.le_trans h.size h'.size, fun k o hk ho hc => h'.keep k o hk (h.keep k o hk ho hc) hc⟩
theorem Kept.of_below {Bo nL : Nat} {a b : World} (h : Below a.heap.size a b) : Kept Bo nL a b :=
  ⟨h.os, h.tape, h.output, h.size, fun k o _ ho _ => (h.block k (Array.getElem?_eq_some_iff.1 ho).1).trans ho⟩
theorem Kept.below {Bo nL : Nat} {a b : World} (h : Kept Bo nL a b) (hB : Bo ≤ nL) (hs : Bo ≤ a.heap.size) : Below Bo a b :=
  ⟨h.os, h.tape, h.output, h.size, fun k hk => by
    have ho : a.heap[k]? = some (a.heap[k]'(by omega)) := Array.getElem?_eq_getElem _
    rw [h.keep k _ (by omega) ho (.inl (by omega)), ho]⟩
theorem Kept.own {Bo nL : Nat} {a b : World} (h : Kept Bo nL a b) {base e sz n : Nat} {v : Value} {xs : List Value} (hv : a.ownsRow base e sz v n xs) (hb : Bo < base) : b.ownsRow base e sz v n xs := by
  refine ⟨hv.1, ?_⟩
  rcases hv.2 with h1 | ⟨g, cap, cur, e1, hg, hh, hr⟩
  · exact .inl h1
  · exact .inr ⟨g, cap, cur, e1, hg, h.keep g _ (by omega) hh (.inr rfl), hr⟩
theorem Kept.cell {Bo nL : Nat} {a b : World} (h : Kept Bo nL a b) {g o : Nat} {v : Value} (hg : g ≠ Bo) (hc : a.cell? ⟨g, o, none⟩ = some v) : b.cell? ⟨g, o, none⟩ = some v := by
  unfold World.cell? at hc ⊢
  split at hc
  · rename_i cs t fr hh
    rw [h.keep g _ hg hh (.inr rfl)]
    exact hc
  · cases hc

theorem row_form {a : World} {base e sz n : Nat} {v : Value} {xs : List Value} (hv : a.ownsRow base e sz v n xs) : ∃ A C, v = .slice A n C := by
  rcases hv.2 with ⟨e1, e2⟩ | ⟨g, cap, cur, e1, _⟩
  · exact ⟨none, 0, by rw [e2]; exact e1⟩
  · exact ⟨_, cap, e1⟩

set_option maxRecDepth 100000 in
set_option maxHeartbeats 3200000 in
theorem all1_in (w0 : World) (h : TabOK w0 B T bp bn last c D1 D2 N) (hl : last ≤ 1000000) (l Bt nL : Nat) (hnL : w0.heap.size ≤ nL) (J Jx : List Told → World → Prop)
    (hY : ∀ pre x W, J pre W → pre.length < Maps.size D1 → YieldAt Fence.wide 6 Tryd.prog l (encTold x) W fun e W' =>
      (e = .returned (.bool true) ∧ J (pre ++ [x]) W' ∧ Kept w0.heap.size nL W W') ∨ (e = .returned (.bool false) ∧ Jx (pre ++ [x]) W'))
    (W : World) (hW : Below w0.heap.size w0 W) (hBo : w0.heap.size < W.heap.size) (hJ : AbidesFrom W.heap.size J) (hBt : Bt ≠ w0.heap.size) (hc : W.cell? ⟨Bt, 0, none⟩ = some (.pointer (some ⟨T, 0, none⟩))) (h0 : J [] W) :
    CallsIn Fence.wide 7 Tryd.prog 31 #[.func (.yield l) #[] #[], .pointer (some ⟨Bt, 0, none⟩)] W fun e W' => (∃ v, e = .returned v) ∧
      ((∃ xs, Pids D1 (xs.map (·.1)) ∧ J xs W') ∨ (∃ pre, Jx pre W')) := by
  have hTW := h.below hW (Nat.le_refl _)
  have q1 := hTW.tab.cell 0
  have q1 : W.cell? ⟨T, 0, none⟩ = some (.map (some bp)) := q1
  have hsl := h.m1.size_le
  have hsz : Maps.size D1 ≤ maxLen := by unfold maxLen; omega
  have hszb : Maps.size D1 * 8 ≤ 140737488355328 := by omega
  have hseq : SeqGives Fence.wide 3 Tryd.prog 40 #[.pointer (some ⟨W.heap.size, 0, none⟩)] encZ (fun ss => ss.Perm (intKeys D1)) (Maps.size D1) (W.alloc (.cells #[.map (some bp)] 64)) :=
    AnyZI.keys_gives (ρ := keysA_ren) { keysA with } Fence.wide _ trivial rfl (by omega) W.heap.size bp last D1 (R := ptrElem) _ (by simp) (by simp) (hTW.m1.kept (World.grownBy_alloc W _ none) (by simp))
  have cK : ∀ mb W, CallsIn Fence.wide 6 Tryd.prog 33 #[.map mb] W fun e w' => e = .returned (.func (.func 40) #[] #[.pointer (some ⟨W.heap.size, 0, none⟩)]) ∧ w' = W.alloc (.cells #[.map mb] 64) := fun mb W => AnyZI.keys_in keysA Fence.wide 6 trivial rfl mb W
  have cS := AnyZI.sorted_in sortedA Fence.wide 6 trivial trivial trivial trivial rfl (by omega) (sortsA _) (enters_of Tryd.func39 (by kernel_rfl) rfl) 40 #[.pointer (some ⟨W.heap.size, 0, none⟩)] trivial (enters_of Tryd.func40 (by kernel_rfl) rfl) _ _ hsz hszb _ hseq
  change CallsIn _ _ Tryd.prog 32 _ _ _ at cS
  have CK := Lib.hid cK
  have CS := Lib.hid cS
  clear cK cS hseq
  have HY := Lib.hid hY
  have HT := Lib.hid h
  have HJ := Lib.hid hJ
  clear hY h hTW hJ
  have f33 : Fence.wide.fn 33 := trivial
  have f32 : Fence.wide.fn 32 := trivial
  have f9 : Fence.wide.fn 9 := trivial
  refine callsIn_of_wp Tryd.func31 rfl trivial ?_ rfl
  simp only [Tryd.ntmps31, List.size_toArray, List.length_cons, List.length_nil, Nat.reduceAdd, Nat.reduceSub, Array.replicate_succ, Array.replicate_zero, List.push_toArray, List.append_toArray, List.nil_append, List.cons_append]
  gi_wp2_with (first
    | (gi_at_call 33; refine (CK.out _ _).mono ?_; rintro e w' ⟨rfl, rfl⟩)
    | (gi_at_call 32; refine CS.out.mono ?_; rintro e w2 ⟨v, ss, rfl, hS, hrow, _, hb⟩; obtain ⟨A, C, rfl⟩ := row_form hrow))
  obtain ⟨zs, hzs⟩ : ∃ zs : List Int, ss.mergeSort (fun x y => decide (x ≤ y)) = zs := ⟨_, rfl⟩
  have hP := pids_of HT.out hS
  have hlen : zs.length = ss.length := by rw [← hzs, List.length_mergeSort]
  rw [hzs] at hrow hP
  have hbW2 : Below W.heap.size W w2 := ((Below.refl _ W).alloc (Nat.le_refl _) _).trans (hb.mono (by simp))
  have hb02 : Below w0.heap.size w0 w2 := hW.trans (hbW2.mono hW.size)
  have hBt2 : w2.cell? ⟨Bt, 0, none⟩ = some (.pointer (some ⟨T, 0, none⟩)) := (hbW2.cell (p := ⟨Bt, 0, none⟩) (block_lt_of_cell hc)).trans hc
  have hJ2 : J [] w2 := HJ.out [] W w2 none h0 (grownBy_of_below hbW2 (Nat.le_refl _)) (by simp)
  have hrow' : w2.ownsRow (W.heap.size + 1) 3 1 (.slice A ss.length C) ss.length (zs.map encZ) := by rw [World.size_alloc] at hrow; exact hrow
  have hss : ss.length ≤ 1000000 := by have := hP.2.2; omega
  have HR := Lib.hid hrow'
  have HZ := Lib.hid hzs
  have HL := Lib.hid hlen
  have HP := Lib.hid hP
  have hW2 := hbW2.size
  clear hrow hrow' hzs hlen hP hS hb CS CK q1
  gi_loopw [16] (fun i wr => ∃ (k : Nat) (pre : List Told), i = .int .i64 k ∧ k ≤ ss.length ∧ pre.map (·.1) = zs.take k ∧ J pre wr ∧ Kept w0.heap.size nL w2 wr) (fun i _ => ss.length - (RowKit.intOf i).toNat)
  case atStart => exact ⟨0, [], rfl, Nat.zero_le _, rfl, hJ2, Kept.refl _ _ _⟩
  case round =>
    obtain ⟨k, pre, rfl, hk, hpre, hJs, hkr⟩ := hrel
    have hszr := hkr.size
    by_cases hlt : k < ss.length
    · have hTr := HT.out.below (hb02.trans (hkr.below hnL hb02.size)) (Nat.le_refl _)
      have hcr := hkr.cell hBt hBt2
      have hown := hkr.own HR.out (by omega)
      obtain ⟨g, cap, ev, hg, hglt⟩ := hown.form (by omega)
      injection ev with eA _ eC
      subst eA
      subst eC
      have hkz : k < zs.length := by have := HL.out; omega
      have HK := Lib.hid (show k + 1 ≤ ss.length by omega)
      have ck : wr.cell? ⟨g, k, none⟩ = some (.int .i64 zs[k]) := by
        have h1 := hown.cells (g := g) rfl k (encZ zs[k]) (by rw [List.getElem?_map, List.getElem?_eq_getElem hkz]; rfl)
        simpa [Addr.add_mid] using h1
      have hhas := HP.out.2.1 zs[k] (List.getElem_mem hkz)
      have hwf : (Lit.int .i64 zs[k]).wf = true := by
        obtain ⟨h1, h2, _⟩ := HT.out.ps _ hhas
        exact WalkArith.wf_i64 (by omega)
      have hpl : pre.length < Maps.size D1 := by
        have h1 := congrArg List.length hpre
        rw [List.length_map, List.length_take] at h1
        have h2 := HP.out.2.2
        omega
      have HTr := Lib.hid hTr
      have HJs := Lib.hid hJs
      have HP' := Lib.hid hpre
      clear hTr hJs hpre hown
      obtain ⟨pid, hpid⟩ : ∃ pid, zs[k] = pid := ⟨_, rfl⟩
      rw [hpid] at ck hhas hwf
      have Hpid := Lib.hid hpid
      clear hpid
      gi_wp2_with (first
        | (gi_at_call 9; refine (callsIn_wide.2 (get_yes HTr.out hwf hhas)).mono ?_; rintro e w3 ⟨par, u2, A3, C3, u, rfl, hs3, hw3⟩; obtain ⟨g2, C2, rfl, _, _⟩ := hs3.form)
        | ((with_reducible refine wpListIn_store_b (ty := 46) (x := .tmp 5) (y := .tmp 24) w3.heap.size 46 Z9 #[.int .i64 pid, .int .i64 par, .slice (some ⟨g2, 0, none⟩) 1 C2, .slice A3 0 C3, .string (N pid), .bool false, .bool false, .slice u.1 u.2.1 u.2.2.1, .slice u.2.2.2.1 u.2.2.2.2.1 u.2.2.2.2.2] ?_ ?_ ?_ ?_ ?_ ?_ ?_); rfl; rfl; exact Blk.new w3 46 Z9; exact size46; rfl; (simp [Value.oneCell']); intro w5 k5 g5 s5; have hb5 : Below wr.heap.size wr w5 := (hw3.alloc hw3.size _).trans (below_of_grown g5 hw3.size (Nat.le_trans hw3.size (by simp))); have hJ5 := HJ.out pre wr w5 none HJs.out (grownBy_of_below hb5 (Nat.le_refl _)) (by simp); obtain ⟨fn, tmps, assign, body, hy, hR⟩ := HY.out pre (pid, #[.int .i64 pid, .int .i64 par, .slice (some ⟨g2, 0, none⟩) 1 C2, .slice A3 0 C3, .string (N pid), .bool false, .bool false, .slice u.1 u.2.1 u.2.2.1, .slice u.2.2.2.1 u.2.2.2.2.1 u.2.2.2.2.2]) w5 hJ5 hpl; have hb5' := Lib.hid hb5; clear hb5 g5 s5 hJ5)
        | ((with_reducible refine wpListIn_load_w (ty := 46) (x := .tmp 5) ?_ w3.heap.size 46 _ _ ?_ k5 Tryd.underlying46 ?_ ?_); rfl; rfl; exact size46))
      refine hR.mono ?_
      rintro e W3 (⟨rfl, hJ3, hk3⟩ | ⟨rfl, hJx3⟩)
      · gi_wp2
        go_roundw
        case rel => exact ⟨k + 1, pre ++ [(pid, _)], by go_num, HK.out, by rw [List.map_append, HP'.out, List.take_succ_eq_append_getElem hkz, Hpid.out]; rfl, hJ3, hkr.trans ((Kept.of_below hb5'.out).trans hk3)⟩
        case measure => have := HK.out; simp [RowKit.intOf]; omega
      · gi_wp2
        refine bodyPost_ret (results_none rfl _ _ _) rfl ?_
        exact ⟨⟨_, rfl⟩, .inr ⟨_, hJx3⟩⟩
    · obtain rfl : k = ss.length := by omega
      gi_wp2
      go_end0
      exact ⟨⟨_, rfl⟩, .inl ⟨pre, by rw [hpre, List.take_of_length_le (Nat.le_of_eq HL.out)]; exact HP.out, hJs⟩⟩

/-- t.All(): the receiver is boxed; the function value captures the box. -/
theorem all_in (p : Option Addr) (w : World) (n : Nat) :
    CallsIn Fence.wide n Tryd.prog 21 #[.pointer p] w fun e w' => e = .returned (.func (.func 31) #[] #[.pointer (some ⟨w.heap.size, 0, none⟩)]) ∧ w' = w.alloc (.cells #[.pointer p] 25) := by
  refine callsIn_of_wp Tryd.func21 rfl trivial ?_ rfl
  simp only [Tryd.ntmps21, List.size_toArray, List.length_cons, List.length_nil, Nat.reduceAdd, Nat.reduceSub, Array.replicate_succ, Array.replicate_zero, List.push_toArray, List.append_toArray, List.nil_append, List.cons_append]
  gi_wp2
  go_ret
  exact ⟨rfl, rfl⟩

theorem all_stops (w0 w1 : World) (h : TabOK w0 B T bp bn last c D1 D2 N) (hl : last ≤ 1000000) (Bt : Nat) (h01 : Below w0.heap.size w0 w1) (hBo : w0.heap.size < w1.heap.size) (hBt : Bt ≠ w0.heap.size) (hc : w1.cell? ⟨Bt, 0, none⟩ = some (.pointer (some ⟨T, 0, none⟩))) :
    SeqStopsK Fence.wide 7 Tryd.prog 31 #[.pointer (some ⟨Bt, 0, none⟩)] encTold (Kept w0.heap.size w1.heap.size) (fun xs => Pids D1 (xs.map (·.1))) (fun _ => True) (Maps.size D1) w1 := fun l J Jx W hW hJ _ hY h0 =>
  (all1_in w0 h hl l Bt w1.heap.size h01.size J Jx hY W (h01.trans (hW.mono h01.size)) (Nat.lt_of_lt_of_le hBo hW.size) hJ hBt ((hW.cell (p := ⟨Bt, 0, none⟩) (block_lt_of_cell hc)).trans hc) h0).mono fun e W' ⟨h1, h2⟩ => ⟨h1, h2.imp id fun ⟨pre, hp⟩ => ⟨pre, trivial, hp⟩⟩
end
end Go.Proofs.YtkiccfdfbmiooaaDoor
