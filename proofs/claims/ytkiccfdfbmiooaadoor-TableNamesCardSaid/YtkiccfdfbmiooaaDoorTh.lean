/-
  The table of processes, plainly: what its maps hold behind a process named, dropped, added.
-/
import Derived.Test.YtkiccfdfbmiooaaDoorTg
import Derived.Test.YtkiccfdfbmiooaaDoorAt
namespace Go.Proofs.YtkiccfdfbmiooaaDoor
open Go Go.RowKit
open Go.Maps (Keyed)

theorem keyS_inj {s s' : ByteArray} (h : keyS s = keyS s') : s = s' := by
  injection h with h
  exact ByteArray.ext (Array.toList_inj.1 h)
theorem keyI_inj {n n' : Int} (h : keyI n = keyI n') : n = n' := by injection h
theorem isK_I (n : Int) : WideAt.IsKeyLit (keyI n) := trivial
theorem isK_S (s : ByteArray) : WideAt.IsKeyLit (keyS s) := trivial
theorem keyS_of {s : ByteArray} (h : s.size ≤ maxLen) : keyOf Tryd.prog 9 (.string s) = some (keyS s) := WideMaps.keyOf_string_mk Tryd.underlying9 h

section
variable {w w1 w2 : World} {B T bp bn last c : Nat} {D1 D2 : DataW Unit} {N : Int → ByteArray}

theorem TabOK.lookS (h : TabOK w B T bp bn last c D1 D2 N) {s : ByteArray} (hs : s.size ≤ maxLen) :
    ∃ n : Int, D2.atKey (keyS s) (.lit (.int .i64 0)) = .lit (.int .i64 n) ∧ (Instr.lookup 65 (.map (some bn)) (.string s) true).run Tryd.prog w = .ok (.tuple #[.int .i64 n, .bool (Maps.has D2 (keyS s))]) w := by
  obtain ⟨v, ps, hrun, hv⟩ := h.m2.look_ok law9 Tryd.underlying65 (zero3 w) (z := .int .i64 0) (zd := .lit (.int .i64 0)) (zp := []) (plainElem_int Tryd.underlying3 (by decide)) (keyS_of hs)
  obtain ⟨n, rfl, hc, _⟩ := plainElem_int_inv Tryd.underlying3 hv
  exact ⟨n, congrArg Prod.fst hc, hrun⟩

theorem turned_grown {b : Nat} (h : w.mapTurned w1 b) : w.grownBy w1 (some b) := h.grown

/-- A process named. -/
theorem TabOK.named (h : TabOK w B T bp bn last c D1 D2 N) {pid : Int} {b : Nat} {s : ByteArray} (hp : Maps.has D1 (keyI pid) = true) (hat : D1.atKey (keyI pid) .nil = .ptr (.lit (.int .i64 b)))
    (hN : (N pid).size = 0) (h1 : s.size ≠ 0) (h2 : s.size ≤ 32) (hfree : Maps.has D2 (keyS s) = false) (hw2 : w2.ownsMap Tryd.prog 9 (plainElem Tryd.prog 3) bn (c + 1) (D2.put (keyS s) (.lit (.int .i64 pid))))
    (hg : (w.setCell ⟨b, 4, none⟩ (.string s)).grownBy w2 (some bn)) :
    TabOK w2 B T bp bn last (c + 1) D1 (D2.put (keyS s) (.lit (.int .i64 pid))) (fun p => if p = pid then s else N p) := by
  have hlo := h.lo
  obtain ⟨_, _, b', hat', hpr⟩ := h.ps pid hp
  rw [hat] at hat'
  have hbb : b' = b := by injection hat' with e; injection e with e; injection e with _ e; omega
  subst hbb
  obtain ⟨hBb, parent, stk, links, n, k1, k2, k3⟩ := hpr
  have hgs := grownBy_setCell w b' 4 (.string s)
  obtain ⟨es, cl, hm⟩ := own_map_heap h.m2
  obtain ⟨es1, cl1, hm1⟩ := own_map_heap h.m1
  have hTb : T ≠ b' := h.tab.ne_ k1 (by decide)
  have hm' : (w.setCell ⟨b', 4, none⟩ (.string s)).heap[bn]? = some (.map es cl) := (hgs.block bn (Array.getElem?_eq_some_iff.1 hm).1 (fun e => blk_ne_map k1 hm (by injection e with e; exact e.symm))).trans hm
  have hmap : Maps.IsMap D2 := h.m2.isMap
  have tab1 : Blk (w.setCell ⟨b', 4, none⟩ (.string s)) T 67 _ := h.tab.grown hgs (fun e => hTb (by injection e))
  refine ⟨hlo, tab1.grown hg (fun e => blk_ne_map tab1 hm' (by injection e)), ?_, hw2, h.ne, ?_, h.inj, ?_, ?_, ?_⟩
  · exact (h.m1.kept hgs (fun e => blk_ne_map k1 hm1 (by injection e with e; exact e.symm))).kept hg (fun e => h.ne (by injection e))
  · intro q hq
    obtain ⟨l1, l2, bq, hatq, hpq⟩ := h.ps q hq
    refine ⟨l1, l2, bq, hatq, ?_⟩
    by_cases e : q = pid
    · subst e
      rw [if_pos rfl]
      rw [hat] at hatq
      have hbb : bq = b' := by injection hatq with e; injection e with e; injection e with _ e; omega
      subst hbb
      have p1 : PrOK (w.setCell ⟨bq, 4, none⟩ (.string s)) B bq q s := ⟨hBb, parent, stk, links, n, k1.set_ 4 (.string s), k2.kept k1 (by omega) hgs, k3.kept k1 (by decide) hgs⟩
      exact p1.keptMap hm' hg
    · rw [if_neg e]
      have hne : bq ≠ b' := fun e1 => e (h.inj q pid bq hq hp hatq (e1 ▸ hat))
      exact (hpq.kept k1 (by omega) hne hgs).keptMap hm' hg
  · intro t ht
    by_cases e : keyS t = keyS s
    · have := keyS_inj e
      subst this
      exact ⟨pid, Maps.atKey_put_same hmap (isK_S t) _ _, hp, by rw [if_pos rfl], h1⟩
    · rw [Maps.has_put_other e] at ht
      obtain ⟨n', ha, hb, hc, hd⟩ := h.nm t ht
      refine ⟨n', by rw [Maps.atKey_put_other e]; exact ha, hb, ?_, hd⟩
      by_cases e1 : n' = pid
      · subst e1
        rw [hc] at hN
        exact absurd hN hd
      · rw [if_neg e1]; exact hc
  · intro q hq hnz
    by_cases e : q = pid
    · subst e
      simp only [if_true]
      exact ⟨Maps.has_put_same hmap (isK_S s) _, Maps.atKey_put_same hmap (isK_S s) _ _⟩
    · simp only [if_neg e] at hnz ⊢
      obtain ⟨ha, hb⟩ := h.mn q hq hnz
      have hne : keyS (N q) ≠ keyS s := fun e1 => by rw [e1, hfree] at ha; cases ha
      exact ⟨by rw [Maps.has_put_other hne]; exact ha, by rw [Maps.atKey_put_other hne]; exact hb⟩
  · intro q hq
    by_cases e : q = pid
    · simp only [if_pos e]; exact h2
    · simp only [if_neg e]; exact h.ln q hq

/-- A process dropped. -/
theorem TabOK.dropped (h : TabOK w B T bp bn last c D1 D2 N) {pid : Int} (hp : Maps.has D1 (keyI pid) = true) (hw1 : w1.ownsMap Tryd.prog 9 (plainElem Tryd.prog 3) bn c (D2.del (keyS (N pid)))) (hg1 : w.grownBy w1 (some bn))
    (hw2 : w2.ownsMap Tryd.prog 3 ptrElem bp last (D1.del (keyI pid))) (hg2 : w1.grownBy w2 (some bp)) : TabOK w2 B T bp bn last c (D1.del (keyI pid)) (D2.del (keyS (N pid))) N := by
  obtain ⟨es, cl, hm⟩ := own_map_heap h.m2
  obtain ⟨es1, cl1, hm1⟩ := own_map_heap h.m1
  have hm1' : w1.heap[bp]? = some (.map es1 cl1) := (hg1.block bp (Array.getElem?_eq_some_iff.1 hm1).1 (fun e => h.ne (by injection e))).trans hm1
  have tab1 : Blk w1 T 67 _ := h.tab.grown hg1 (fun e => blk_ne_map h.tab hm (by injection e))
  have hold : ∀ q : Int, Maps.has (D1.del (keyI pid)) (keyI q) = true → q ≠ pid ∧ Maps.has D1 (keyI q) = true := by
    intro q hq
    by_cases e : keyI q = keyI pid
    · rw [e, Maps.has_del_same] at hq; cases hq
    · rw [Maps.has_del_other e] at hq
      exact ⟨fun e1 => e (by rw [e1]), hq⟩
  have hother : ∀ q : Int, q ≠ pid → keyI q ≠ keyI pid := fun q hq e => hq (keyI_inj e)
  refine ⟨h.lo, tab1.grown hg2 (fun e => blk_ne_map tab1 hm1' (by injection e)), hw2, hw1.kept hg2 (fun e => h.ne (by injection e with e; exact e.symm)), h.ne, ?_, ?_, ?_, ?_, ?_⟩
  · intro q hq
    obtain ⟨hne, hq'⟩ := hold q hq
    obtain ⟨l1, l2, b, ha, hb⟩ := h.ps q hq'
    exact ⟨l1, l2, b, by rw [Maps.atKey_del_other (hother q hne)]; exact ha, (hb.keptMap hm hg1).keptMap hm1' hg2⟩
  · intro q q' b hq hq' ha ha'
    obtain ⟨hne, hq1⟩ := hold q hq
    obtain ⟨hne', hq1'⟩ := hold q' hq'
    rw [Maps.atKey_del_other (hother q hne)] at ha
    rw [Maps.atKey_del_other (hother q' hne')] at ha'
    exact h.inj q q' b hq1 hq1' ha ha'
  · intro s hs
    by_cases e : keyS s = keyS (N pid)
    · rw [e, Maps.has_del_same] at hs; cases hs
    · rw [Maps.has_del_other e] at hs
      obtain ⟨n, ha, hb, hc, hd⟩ := h.nm s hs
      have hnp : n ≠ pid := fun e1 => e (by rw [← hc, e1])
      exact ⟨n, by rw [Maps.atKey_del_other e]; exact ha, by rw [Maps.has_del_other (hother n hnp)]; exact hb, hc, hd⟩
  · intro q hq hnz
    obtain ⟨hne, hq'⟩ := hold q hq
    obtain ⟨ha, hb⟩ := h.mn q hq' hnz
    have e : keyS (N q) ≠ keyS (N pid) := fun e1 => by
      have e2 := keyS_inj e1
      obtain ⟨_, hb'⟩ := h.mn pid hp (by rw [← e2]; exact hnz)
      rw [← e2, hb] at hb'
      injection hb' with e3
      injection e3 with _ e3
      exact hne e3
    exact ⟨by rw [Maps.has_del_other e]; exact ha, by rw [Maps.atKey_del_other e]; exact hb⟩
  · intro q hq
    exact h.ln q (hold q hq).2

/-- A process added. -/
theorem TabOK.added (h : TabOK w B T bp bn last c D1 D2 N) {b : Nat} (hpr : PrOK w B b (last + 1 : Int) ⟨#[]⟩) (hnew : ∀ (pid : Int) (b' : Nat), Maps.has D1 (keyI pid) = true → D1.atKey (keyI pid) .nil = .ptr (.lit (.int .i64 b')) → b' ≠ b)
    (hw2 : w2.ownsMap Tryd.prog 3 ptrElem bp (last + 1) (D1.put (keyI (last + 1)) (.ptr (.lit (.int .i64 b))))) (hg : (w.setCell ⟨T, 2, none⟩ (.int .i64 (last + 1))).grownBy w2 (some bp)) :
    TabOK w2 B T bp bn (last + 1) c (D1.put (keyI (last + 1)) (.ptr (.lit (.int .i64 b)))) D2 (fun p => if p = (last : Int) + 1 then ⟨#[]⟩ else N p) := by
  have hmap : Maps.IsMap D1 := h.m1.isMap
  have hgs := grownBy_setCell w T 2 (.int .i64 (last + 1))
  obtain ⟨es, cl, hm⟩ := own_map_heap h.m2
  obtain ⟨es1, cl1, hm1⟩ := own_map_heap h.m1
  have hm1' : (w.setCell ⟨T, 2, none⟩ (.int .i64 (last + 1))).heap[bp]? = some (.map es1 cl1) := (hgs.block bp (Array.getElem?_eq_some_iff.1 hm1).1 (fun e => blk_ne_map h.tab hm1 (by injection e with e; exact e.symm))).trans hm1
  have tab1 : Blk (w.setCell ⟨T, 2, none⟩ (.int .i64 (last + 1))) T 67 #[.map (some bp), .map (some bn), .int .i64 (last + 1)] := h.tab.set_ 2 (.int .i64 (last + 1))
  have keep : ∀ {b' : Nat} {q : Int} {nm : ByteArray}, PrOK w B b' q nm → PrOK w2 B b' q nm := by
    intro b' q nm hq
    have hne : b' ≠ T := by
      obtain ⟨_, _, _, _, _, k1, _⟩ := hq
      exact k1.ne_ h.tab (by decide)
    exact (hq.kept h.tab (by omega) hne hgs).keptMap hm1' hg
  have hold : ∀ q : Int, keyI q ≠ keyI (last + 1) → Maps.has (D1.put (keyI (last + 1)) (.ptr (.lit (.int .i64 b)))) (keyI q) = true → Maps.has D1 (keyI q) = true := fun q e hq => by rwa [Maps.has_put_other e] at hq
  refine ⟨h.lo, ?_, hw2, ((h.m2.kept hgs (fun e => blk_ne_map h.tab hm (by injection e with e; exact e.symm))).kept hg (fun e => h.ne (by injection e with e; exact e.symm))), h.ne, ?_, ?_, ?_, ?_, ?_⟩
  · have := tab1.grown hg (fun e => blk_ne_map tab1 hm1' (by injection e))
    simpa using this
  · intro q hq
    by_cases e : keyI q = keyI (last + 1)
    · have := keyI_inj e
      subst this
      exact ⟨by omega, by omega, b, Maps.atKey_put_same hmap (isK_I _) _ _, by rw [if_pos rfl]; exact keep hpr⟩
    · obtain ⟨l1, l2, b', ha, hb⟩ := h.ps q (hold q e hq)
      refine ⟨l1, by omega, b', by rw [Maps.atKey_put_other e]; exact ha, ?_⟩
      rw [if_neg (fun e1 => e (by rw [e1]))]
      exact keep hb
  · intro q q' b' hq hq' ha ha'
    by_cases e : keyI q = keyI (last + 1)
    · by_cases e' : keyI q' = keyI (last + 1)
      · exact keyI_inj (e.trans e'.symm)
      · rw [e, Maps.atKey_put_same hmap (isK_I _)] at ha
        rw [Maps.atKey_put_other e'] at ha'
        have hbb : b' = b := by injection ha with e; injection e with e; injection e with _ e; omega
        exact absurd hbb (hnew q' b' (hold q' e' hq') ha')
    · by_cases e' : keyI q' = keyI (last + 1)
      · rw [e', Maps.atKey_put_same hmap (isK_I _)] at ha'
        rw [Maps.atKey_put_other e] at ha
        have hbb : b' = b := by injection ha' with e; injection e with e; injection e with _ e; omega
        exact absurd hbb (hnew q b' (hold q e hq) ha)
      · rw [Maps.atKey_put_other e] at ha
        rw [Maps.atKey_put_other e'] at ha'
        exact h.inj q q' b' (hold q e hq) (hold q' e' hq') ha ha'
  · intro s hs
    obtain ⟨n, ha, hb, hc, hd⟩ := h.nm s hs
    have hn := (h.ps n hb).2.1
    refine ⟨n, ha, ?_, by rw [if_neg (by omega)]; exact hc, hd⟩
    rw [Maps.has_put_other (fun e => by have := keyI_inj e; omega)]
    exact hb
  · intro q hq hnz
    by_cases e : q = (last : Int) + 1
    · simp only [if_pos e] at hnz
      exact absurd rfl hnz
    · simp only [if_neg e] at hnz ⊢
      exact h.mn q (hold q (fun e1 => e (keyI_inj e1)) hq) hnz
  · intro q hq
    by_cases e : q = (last : Int) + 1
    · simp only [if_pos e]; exact Nat.zero_le _
    · simp only [if_neg e]
      exact h.ln q (hold q (fun e1 => e (keyI_inj e1)) hq)
end
end Go.Proofs.YtkiccfdfbmiooaaDoor
