/- Several texts of this claim in one: HXMap, HPSet, HXBel, HSets, HOModel. -/
import Derived.Test.YtfnophaiamkmpaaV0
import Derived.Maps.OwnOps
import Derived.Maps.RangeWalk
import Derived.Lib.SlicesCompact
import Derived.Test.YtfnophaiamkmpaaPrint0
import Derived.Test.YtfnophaiamkmpaaShelf
import Derived.Lib.OwnBridge
import Derived.Sort.OwnSortedInts
import Derived.LoopTactic
namespace Go.Proofs.Ytfnophaiamkmpaa.Print
open Go.RowKit Go.Proofs.YtfnophaiamkmpaaW.PrintWords Go.Proofs.YtfnophaiamkmpaaW.PrintLast Go.Proofs.YtfnophaiamkmpaaW.PrintMore
set_option linter.unusedVariables false
set_option linter.unusedSimpArgs false
/-! ### 1. Lists of keys and elements -/
section
variable {κ ε : Type} [DecidableEq κ]
def midx : List (κ × ε) → κ → Nat → Option (Nat × ε)
 | [], _, _ => none
 | p :: r, k, i => if p.1 = k then some (i, p.2) else midx r k (i + 1)
def mget (m : List (κ × ε)) (k : κ) : Option ε := (midx m k 0).map Prod.snd
def mput : List (κ × ε) → κ → ε → List (κ × ε)
 | [], k, v => [(k, v)]
 | p :: r, k, v => if p.1 = k then (k, v) :: r else p :: mput r k v
theorem midx_shift (m : List (κ × ε)) (k : κ) : ∀ i j, (midx m k i).map Prod.snd = (midx m k j).map Prod.snd := by
 induction m with
 | nil => intro i j; rfl
 | cons p r ih =>
  intro i j
  unfold midx
  split
  ·rfl
  ·exact ih _ _
theorem mget_nil (k : κ) : mget ([] : List (κ × ε)) k = none := rfl
theorem mget_cons (p : κ × ε) (r : List (κ × ε)) (k : κ) : mget (p :: r) k = if p.1 = k then some p.2 else mget r k := by
 unfold mget
 conv => lhs; unfold midx
 split
 ·rfl
 ·exact midx_shift r k _ _
theorem mget_mput (m : List (κ × ε)) (k k' : κ) (v : ε) : mget (mput m k v) k' = if k = k' then some v else mget m k' := by
 induction m with
 | nil => simp [mput, mget_cons, mget_nil]
 | cons p r ih =>
  unfold mput
  by_cases h : p.1 = k
  ·rw [if_pos h, mget_cons, mget_cons, h]
   by_cases h2 : k = k' <;> simp [h2]
  ·rw [if_neg h, mget_cons, mget_cons, ih]
   by_cases h2 : p.1 = k'
   ·have : ¬ k = k' := fun e => h (h2.trans e.symm)
    simp [h2, this]
   ·simp [h2]
end
/-! ### 2. A map's block -/
def MapIs {κ ε : Type} (encK : κ → Value) (encE : ε → Value) (w : World) (b : Nat) (m : List (κ × ε)) : Prop :=
 ∃ es clock, w.heap[b]? = some (.map es clock) ∧ es.toList.map (fun x => (x.key, x.val)) = m.map (fun p => (encK p.1, encE p.2)) ∧ (∀ x ∈ es.toList, x.born < clock) ∧ (es.toList.map (·.born)).Nodup
structure KeyKind {κ : Type} [DecidableEq κ] (P : Program) (kt : TypeId) (encK : κ → Value) : Prop where
 find : ∀ {ε : Type} (encE : ε → Value) (k : κ) (es : List MapEntry) (m : List (κ × ε)) (w : World), es.map (fun x => (x.key, x.val)) = m.map (fun p => (encK p.1, encE p.2)) →
  (Instr.findKey kt (encK k) es).run P w = .ok ((midx m k 0).map fun q => (q.1, encE q.2)) w
 check : ∀ (e : Bool) (k : κ) (w : World), (Instr.checkKey e 10000 kt (encK k)).run P w = .ok () w
 same : ∀ (k : κ), Instr.sameBits 10000 (encK k) (encK k) = true
 inj : ∀ k k' : κ, encK k = encK k' → k = k'
theorem findNow_int {ε : Type} (encE : ε → Value) (k : Int) : ∀ (es : List MapEntry) (m : List (Int × ε)) (i : Nat), es.map (fun x => (x.key, x.val)) = m.map (fun p => (Value.int .i64 p.1, encE p.2)) →
  Instr.findNow (.int .i64) (.int .i64 k) es i = some ((midx m k i).map fun q => (q.1, encE q.2))
 | [], [], i, _ => rfl
 | [], p :: r, i, h => by simp at h
 | x :: es, [], i, h => by simp at h
 | x :: es, p :: r, i, h => by
  simp only [List.map_cons, List.cons.injEq, Prod.mk.injEq] at h
  obtain ⟨⟨hk, hv⟩, h⟩ := h
  unfold Instr.findNow midx
  rw [hk, hv]
  by_cases he : p.1 = k
  ·have : (k == p.1) = true := by simp [he]
   simp [Instr.sameNow, this, he]
  ·have : (k == p.1) = false := by simp; exact fun e => he e.symm
   simp only [Instr.sameNow, if_true, this]
   rw [if_neg he]
   exact findNow_int encE k es r (i + 1) h
theorem intKey {P : Program} {kt : TypeId} (h : P.underlying kt = some (.int .i64)) : KeyKind P kt (Value.int .i64) where
 find := by
  intro ε encE k es m w he
  unfold Instr.findKey
  simp [run_underlying h, findNow_int encE k es m 0 he]
 check := by
  intro e k w
  unfold Instr.checkKey
  simp [run_underlying h]
 same := by intro k; simp [Instr.sameBits]
 inj := by intro k k' h; injection h
section
variable {κ ε : Type} {encK : κ → Value} {encE : ε → Value} {w w1 : World} {b : Nat} {m : List (κ × ε)}
theorem MapIs.lt (h : MapIs encK encE w b m) : b < w.heap.size := by
 obtain ⟨es, clock, hb, _⟩ := h
 exact (Array.getElem?_eq_some_iff.1 hb).1
theorem MapIs.keep (h : MapIs encK encE w b m) (hk : w1.heap[b]? = w.heap[b]?) : MapIs encK encE w1 b m := by
 obtain ⟨es, clock, hb, r⟩ := h
 exact ⟨es, clock, hk.trans hb, r⟩
theorem MapIs.below (h : MapIs encK encE w b m) (hb : Below w.heap.size w w1) : MapIs encK encE w1 b m := h.keep (hb.block b h.lt)
theorem MapIs.alloc (h : MapIs encK encE w b m) (o : Obj) : MapIs encK encE (w.alloc o) b m := h.below ((Below.refl _ _).alloc (Nat.le_refl _) o)
theorem MapIs.drewN (h : MapIs encK encE w b m) (n : Nat) : MapIs encK encE (w.drewN n) b m := h
theorem MapIs.drew (h : MapIs encK encE w b m) : MapIs encK encE w.drew b m := h
theorem MapIs.grown (h : MapIs encK encE w b m) {row : Option Nat} (hg : w.grownBy w1 row) (hne : some b ≠ row) : MapIs encK encE w1 b m := h.keep (hg.block b h.lt hne)
theorem MapIs.setCell (h : MapIs encK encE w b m) (p : Addr) (v : Value) : MapIs encK encE (w.setCell p v) b m := by
 obtain ⟨es, clock, hb, r⟩ := h
 refine ⟨es, clock, ?_, r⟩
 by_cases hp : p.block = b
 ·subst hp
  simp [World.setCell, Array.getElem?_modify, hb]
 ·rw [Below.heap_setCell w p v b (fun e => hp e.symm)]
  exact hb
theorem MapIs.made (w : World) : MapIs encK encE (w.alloc (.map #[] 0)) w.heap.size [] := ⟨#[], 0, heap_alloc_new w _, rfl, by simp, by simp⟩
theorem MapIs.set (h : MapIs encK encE w b m) (es : Array MapEntry) (clock : Nat) {m' : List (κ × ε)} (hm : es.toList.map (fun x => (x.key, x.val)) = m'.map (fun p => (encK p.1, encE p.2))) (hb : ∀ x ∈ es.toList, x.born < clock) (hn : (es.toList.map (·.born)).Nodup) :
  MapIs encK encE { w with heap := w.heap.setIfInBounds b (.map es clock) } b m' ∧ w.grownBy { w with heap := w.heap.setIfInBounds b (.map es clock) } (some b) := by
 have hlt := h.lt
 refine ⟨⟨es, clock, ?_, hm, hb, hn⟩, rfl, rfl, rfl, by simp, fun k hk hne => ?_⟩
 ·simp [Array.getElem?_setIfInBounds, hlt]
 ·have : b ≠ k := fun e => hne (by rw [e])
  simp [Array.getElem?_setIfInBounds, this]
end
section
variable {κ ε : Type} [DecidableEq κ]
theorem midx_lt {k : κ} : ∀ (m : List (κ × ε)) (i : Nat) {j : Nat} {v : ε}, midx m k i = some (j, v) → i ≤ j ∧ ∃ h : j - i < m.length, (m[j - i]).1 = k
 | [], i, j, v, h => by simp [midx] at h
 | p :: r, i, j, v, h => by
  unfold midx at h
  split at h
  ·rename_i hp
   simp only [Option.some.injEq, Prod.mk.injEq] at h
   obtain ⟨rfl, _⟩ := h
   exact ⟨Nat.le_refl _, by simp, by simp [hp]⟩
  ·obtain ⟨h1, h2, h3⟩ := midx_lt r (i + 1) h
   refine ⟨by omega, by simp; omega, ?_⟩
   obtain ⟨d, hd⟩ : ∃ d, j - i = d + 1 := ⟨j - (i + 1), by omega⟩
   have hd' : j - (i + 1) = d := by omega
   simp only [hd, List.getElem_cons_succ]
   simp only [hd'] at h3
   exact h3
theorem mput_some {k : κ} {v' : ε} : ∀ (m : List (κ × ε)) (i : Nat) {j : Nat} {v : ε}, midx m k i = some (j, v) → mput m k v' = m.set (j - i) (k, v')
 | [], i, j, v, h => by simp [midx] at h
 | p :: r, i, j, v, h => by
  unfold midx at h
  unfold mput
  split at h
  ·rename_i hp
   simp only [Option.some.injEq, Prod.mk.injEq] at h
   obtain ⟨rfl, _⟩ := h
   simp [hp]
  ·rename_i hp
   obtain ⟨h1, _⟩ := midx_lt r (i + 1) h
   rw [if_neg hp, mput_some r (i + 1) h]
   obtain ⟨d, hd⟩ : ∃ d, j - i = d + 1 := ⟨j - (i + 1), by omega⟩
   have hd' : j - (i + 1) = d := by omega
   rw [hd, hd']
   rfl
theorem mput_none {k : κ} {v' : ε} : ∀ (m : List (κ × ε)) (i : Nat), midx m k i = none → mput m k v' = m ++ [(k, v')]
 | [], i, h => rfl
 | p :: r, i, h => by
  unfold midx at h
  unfold mput
  split at h
  ·cases h
  ·rename_i hp
   rw [if_neg hp, mput_none r (i + 1) h]
   rfl
end
/-! ### 3. The machine's operations -/
section
variable {κ ε : Type} [DecidableEq κ] {encK : κ → Value} {encE : ε → Value} {P : Program} {w : World} {b : Nat} {m : List (κ × ε)} {t kt et : TypeId}
theorem run_lookup_map (K : KeyKind P kt encK) (ht : P.underlying t = some (.map kt et)) (h : MapIs encK encE w b m) (z : ε) (hz : ∀ w, (zeroValue et).run P w = .ok (encE z) w) (k : κ) (c : Bool) :
  (Instr.lookup t (.map (some b)) (encK k) c).run P w = .ok (if c then .tuple #[encE ((mget m k).getD z), .bool (mget m k).isSome] else encE ((mget m k).getD z)) w := by
 obtain ⟨es, clock, hb, hm, _⟩ := h
 have hf := K.find encE k es.toList m w hm
 have hc := K.check es.isEmpty k w
 unfold Instr.lookup
 simp only [Sem.run_bind, run_underlying ht, Result.andThen_ok]
 have hg : ∀ w0 : World, w0.heap[b]? = some (.map es clock) → (getObj b).run P w0 = .ok (.map es clock) w0 := by
  intro w0 h0
  simp [getObj, Sem.run, h0]
 simp only [hg w hb, Result.andThen_ok, Sem.run_pure, hc, hf]
 unfold mget
 cases hi : midx m k 0 with
 | none => cases c <;> simp [hz, hc, hf, hi]
 | some q => cases c <;> simp [hc, hf, hi]
theorem run_mapUpdate_map (K : KeyKind P kt encK) (ht : P.underlying t = some (.map kt et)) (h : MapIs encK encE w b m) (k : κ) (v : ε) :
  ∃ w1, (Instr.mapUpdate t (.map (some b)) (encK k) (encE v)).run P w = .ok () w1 ∧ MapIs encK encE w1 b (mput m k v) ∧ w.grownBy w1 (some b) := by
 have H := h
 obtain ⟨es, clock, hb, hm, hborn, hnd⟩ := h
 have hf := K.find encE k es.toList m w hm
 have hc := K.check false k w
 have hlen : es.size = m.length := by
  have := congrArg List.length hm
  simpa using this
 have hg : (getObj b).run P w = .ok (.map es clock) w := by simp [getObj, Sem.run, hb]
 have hs : ∀ o, (setObj b o).run P w = .ok () { w with heap := w.heap.setIfInBounds b o } := by
  intro o
  simp [setObj, Sem.run, hb]
 unfold Instr.mapUpdate
 simp only [Sem.run_bind, run_underlying ht, Result.andThen_ok, hg, hc, hf]
 cases hi : midx m k 0 with
 | none =>
  simp only [Option.map_none, hs]
  refine ⟨_, rfl, H.set _ _ ?_ ?_ ?_⟩
  ·rw [mput_none m 0 hi]
   simp [hm]
  ·intro x hx
   simp only [Array.toList_push, List.mem_append, List.mem_singleton] at hx
   rcases hx with hx | rfl
   ·have := hborn x hx
    omega
   ·simp
  ·simp only [Array.toList_push, List.map_append, List.map_cons, List.map_nil]
   rw [List.nodup_append]
   refine ⟨hnd, by simp, ?_⟩
   intro a ha c hc2
   simp only [List.mem_singleton] at hc2
   obtain ⟨x, hx, rfl⟩ := List.mem_map.1 ha
   have := hborn x hx
   omega
 | some q =>
  obtain ⟨j, v0⟩ := q
  obtain ⟨_, hjl, hjk⟩ := midx_lt m 0 hi
  have hset := mput_some (v' := v) m 0 hi
  simp only [Nat.sub_zero] at hjl hjk hset
  have hje : j < es.size := by omega
  have hkey : (es[j]).key = encK k := by
   have h1 : (es.toList.map (fun x => (x.key, x.val)))[j]? = (m.map (fun p => (encK p.1, encE p.2)))[j]? := by rw [hm]
   rw [List.getElem?_map, List.getElem?_map, List.getElem?_eq_getElem (by simpa using hje), List.getElem?_eq_getElem hjl] at h1
   simp only [Option.map_some, Option.some.injEq, Prod.mk.injEq] at h1
   rw [Array.getElem_toList] at h1
   rw [h1.1, hjk]
  have hks : (Instr.keyThatStays (((es[j]?).map (·.key)).getD (encK k)) (encK k)).run P w = .ok (encK k) w := by
   rw [Array.getElem?_eq_getElem hje]
   simp only [Option.map_some, Option.getD_some, hkey]
   unfold Instr.keyThatStays
   rw [if_pos (K.same k)]
   rfl
  simp only [Option.map_some]
  have hmod : (es.modify j fun e => { e with key := encK k, val := encE v }).toList = es.toList.modify j fun e => { e with key := encK k, val := encE v } := by simp
  refine ⟨_, by rw [Sem.run_bind, hks, Result.andThen_ok, hs], H.set _ _ ?_ ?_ ?_⟩
  ·rw [hset, hmod, List.map_set, ← hm]
   apply List.ext_getElem?
   intro i
   rw [List.getElem?_map, List.getElem?_modify, List.getElem?_set, List.getElem?_map]
   by_cases hij : j = i
   ·subst hij
    simp [List.getElem?_eq_getElem (show j < es.toList.length by simpa using hje), hje]
   ·simp [hij]
  ·intro x hx
   rw [hmod] at hx
   obtain ⟨i, hi', rfl⟩ := List.mem_iff_getElem.1 hx
   rw [List.getElem_modify]
   have hil : i < es.toList.length := by simpa using hi'
   have hq := hborn _ (List.getElem_mem hil)
   split <;> exact hq
  ·rw [hmod]
   have : (es.toList.modify j fun e => { e with key := encK k, val := encE v }).map (·.born) = es.toList.map (·.born) := by
    apply List.ext_getElem?
    intro i
    rw [List.getElem?_map, List.getElem?_modify, List.getElem?_map]
    by_cases hij : j = i
    ·subst hij
     cases h0 : es.toList[j]? <;> simp
    ·simp [hij]
   rw [this]
   exact hnd
end
section
variable {κ ε : Type} [DecidableEq κ] {encK : κ → Value} {encE : ε → Value} {P : Program} {w : World} {b : Nat} {m : List (κ × ε)} {t kt et : TypeId} {ops : Array Oper} {rest : List Oper} {o : Oper} {a : Act} {Q : Exit → Act → World → Prop}
theorem wp_lookup_map (K : KeyKind P kt encK) (ht : P.underlying t = some (.map kt et)) (z : ε) (hz : ∀ w, (zeroValue et).run P w = .ok (encE z) w) (hg : o.guard = none) (mo x : Operand) (c : Bool) (hop : o.op = Op.lookup t mo x c)
  (h : MapIs encK encE w b m) (k : κ) (hm : a.eval mo = .map (some b)) (hx : a.eval x = encK k) (v : Value) (hv : (if c then .tuple #[encE ((mget m k).getD z), .bool (mget m k).isSome] else encE ((mget m k).getD z)) = v)
  (hK : wpList P ops Q rest (a.put o.dst v) w) :
  wpList P ops Q (o :: rest) a w := by
 refine wpList_plain hg fun K' hK' => ?_
 have hrun := run_lookup_map K ht h z hz k c
 rw [hv] at hrun
 unfold Oper.wp
 simp only [execOp, hop, hm, hx, Sem.run_bind, hrun, Result.andThen_ok, Sem.run_pure]
 exact hK' _ _ hK
theorem wp_mapUpdate_map (K : KeyKind P kt encK) (ht : P.underlying t = some (.map kt et)) (hg : o.guard = none) (mo x vo : Operand) (hop : o.op = Op.mapUpdate t mo x vo) (hd : o.dst = none)
  (h : MapIs encK encE w b m) (k : κ) (v : ε) (hm : a.eval mo = .map (some b)) (hx : a.eval x = encK k) (hv : a.eval vo = encE v)
  (hK : ∀ w1, MapIs encK encE w1 b (mput m k v) → w.grownBy w1 (some b) → wpList P ops Q rest a w1) :
  wpList P ops Q (o :: rest) a w := by
 refine wpList_plain hg fun K' hK' => ?_
 obtain ⟨w1, hrun, h1, h2⟩ := run_mapUpdate_map K ht h k v
 unfold Oper.wp
 simp only [execOp, hop, hm, hx, hv, Sem.run_bind, hrun, Result.andThen_ok, Sem.run_pure]
 have := hK w1 h1 h2
 exact hK' _ _ (by rw [hd]; exact this)
end
open Go.ChangeMaps (setBlock)
set_option linter.unusedSectionVars false
section
variable {κ ε : Type} [DecidableEq κ]
end
/-! ### The machine's operations -/
def EntryIs {κ ε : Type} [DecidableEq κ] (encK : κ → Value) (encE : ε → Value) (w : World) (b : Nat) (m : List (κ × ε)) (k : κ) (stamp : Nat) : Prop :=
 ∃ es clock, w.heap[b]? = some (.map es clock) ∧ es.toList.map (fun x => (x.key, x.val)) = m.map (fun p => (encK p.1, encE p.2)) ∧ (∀ x ∈ es.toList, x.born < clock) ∧ (es.toList.map (·.born)).Nodup ∧
  ∃ j v0, midx m k 0 = some (j, v0) ∧ (es[j]?).map (·.born) = some stamp
section
variable {κ ε : Type} [DecidableEq κ] {encK : κ → Value} {encE : ε → Value} {P : Program} {w w1 : World} {b : Nat} {m : List (κ × ε)} {t kt et : TypeId}
theorem EntryIs.map {k : κ} {stamp : Nat} (h : EntryIs encK encE w b m k stamp) : MapIs encK encE w b m := by
 obtain ⟨es, clock, h1, h2, h3, h4, _⟩ := h
 exact ⟨es, clock, h1, h2, h3, h4⟩
theorem EntryIs.keep {k : κ} {stamp : Nat} (h : EntryIs encK encE w b m k stamp) (hk : w1.heap[b]? = w.heap[b]?) : EntryIs encK encE w1 b m k stamp := by
 obtain ⟨es, clock, hb, r⟩ := h
 exact ⟨es, clock, hk.trans hb, r⟩
theorem EntryIs.grown {k : κ} {stamp : Nat} (h : EntryIs encK encE w b m k stamp) {row : Option Nat} (hg : w.grownBy w1 row) (hne : some b ≠ row) : EntryIs encK encE w1 b m k stamp := h.keep (hg.block b h.map.lt hne)
end
/-! ### A loop over a map -/
def RangeIs {κ ε : Type} (encK : κ → Value) (encE : ε → Value) (w : World) (b r : Nat) (m : List (κ × ε)) (is : List Nat) : Prop :=
 ∃ es clock since seen c0, w.heap[b]? = some (.map es clock) ∧ es.toList.map (fun x => (x.key, x.val)) = m.map (fun p => (encK p.1, encE p.2)) ∧ (∀ x ∈ es.toList, x.born < clock) ∧ (es.toList.map (·.born)).Nodup ∧
  w.heap[r]? = some (.mapIter (some b) since seen c0) ∧ (∀ x ∈ es.toList, x.born < since) ∧ since ≤ c0 ∧ since ≤ clock ∧ seen.toList.map some = is.map (fun i => (es[i]?).map (·.born)) ∧ (∀ i ∈ is, i < m.length)
section
variable {κ ε : Type} [DecidableEq κ] {encK : κ → Value} {encE : ε → Value} {P : Program} {w w1 : World} {b r : Nat} {m : List (κ × ε)} {is : List Nat} {t kt et : TypeId}
theorem RangeIs.map (h : RangeIs encK encE w b r m is) : MapIs encK encE w b m := by
 obtain ⟨es, clock, _, _, _, h1, h2, h3, h4, _⟩ := h
 exact ⟨es, clock, h1, h2, h3, h4⟩
theorem RangeIs.keep (h : RangeIs encK encE w b r m is) (hb : w1.heap[b]? = w.heap[b]?) (hr : w1.heap[r]? = w.heap[r]?) : RangeIs encK encE w1 b r m is := by
 obtain ⟨es, clock, since, seen, c0, h1, h2, h3, h4, h5, h6⟩ := h
 exact ⟨es, clock, since, seen, c0, hb.trans h1, h2, h3, h4, hr.trans h5, h6⟩
theorem RangeIs.lt (h : RangeIs encK encE w b r m is) : r < w.heap.size := by
 obtain ⟨es, clock, since, seen, c0, _, _, _, _, h5, _⟩ := h
 exact (Array.getElem?_eq_some_iff.1 h5).1
theorem RangeIs.below (h : RangeIs encK encE w b r m is) (hb : Below w.heap.size w w1) : RangeIs encK encE w1 b r m is := h.keep (hb.block b h.map.lt) (hb.block r h.lt)
theorem RangeIs.drew (h : RangeIs encK encE w b r m is) : RangeIs encK encE w.drew b r m is := h
theorem RangeIs.grown (h : RangeIs encK encE w b r m is) {row : Option Nat} (hg : w.grownBy w1 row) (hb : some b ≠ row) (hr : some r ≠ row) : RangeIs encK encE w1 b r m is := h.keep (hg.block b h.map.lt hb) (hg.block r h.lt hr)
end
section
variable {P : Program} {w w1 : World} {ops : Array Oper} {rest : List Oper} {o : Oper} {a : Act} {Q : Exit → Act → World → Prop}
end
section
variable {κ ε : Type} [DecidableEq κ] {encK : κ → Value} {encE : ε → Value} {P : Program} {w w1 : World} {b r : Nat} {m : List (κ × ε)} {is : List Nat} {t kt et : TypeId} {ops : Array Oper} {rest : List Oper} {o : Oper} {a : Act} {Q : Exit → Act → World → Prop}
end
section
variable {κ ε : Type} [DecidableEq κ] {encK : κ → Value} {encE : ε → Value} {P : Program} {w w1 : World} {b r : Nat} {m : List (κ × ε)} {is : List Nat} {t kt et : TypeId} {ops : Array Oper} {rest : List Oper} {o : Oper} {a : Act} {Q : Exit → Act → World → Prop}
end
section
variable {κ ε : Type} [DecidableEq κ] {encK : κ → Value} {encE : ε → Value} {P : Program} {w w1 : World} {b r : Nat} {m : List (κ × ε)} {t kt et : TypeId} {ops : Array Oper} {o : Oper} {a : Act} {Q : Exit → Act → World → Prop} {Kc : Act → World → Prop} {N : Option Tmp}
end
theorem cell_heap {w w' : World} (h : w'.heap = w.heap) (a : Addr) : w'.cell? a = w.cell? a := by unfold World.cell?; rw [h]
def ins (x : Int) : List Int → List Int
 | [] => [x]
 | y :: r => if y < x then y :: ins x r else if y = x then y :: r else x :: y :: r
def setOf (l : List Int) : List Int := l.foldl (fun s x => ins x s) []
def Inc (l : List Int) : Prop := l.Pairwise (· < ·)
theorem mem_ins {x y : Int} : ∀ {l : List Int}, y ∈ ins x l ↔ y = x ∨ y ∈ l
 | [] => by simp [ins]
 | z :: r => by
  unfold ins
  split
  ·rw [List.mem_cons, mem_ins, List.mem_cons]
   constructor
   ·rintro (h | h | h)
    ·exact .inr (.inl h)
    ·exact .inl h
    ·exact .inr (.inr h)
   ·rintro (h | h | h)
    ·exact .inr (.inl h)
    ·exact .inl h
    ·exact .inr (.inr h)
  ·split
   ·rename_i h
    rw [List.mem_cons]
    constructor
    ·rintro (h | h)
     ·exact .inr (.inl h)
     ·exact .inr (.inr h)
    ·rintro (h2 | h | h)
     ·exact .inl (h2.trans h.symm)
     ·exact .inl h
     ·exact .inr h
   ·simp
theorem inc_ins {x : Int} : ∀ {l : List Int}, Inc l → Inc (ins x l)
 | [], _ => by simp [ins, Inc]
 | z :: r, h => by
  have h1 := List.pairwise_cons.1 h
  unfold ins
  split
  ·rename_i hz
   refine List.pairwise_cons.2 ⟨fun y hy => ?_, inc_ins h1.2⟩
   rcases mem_ins.1 hy with rfl | hy
   ·exact hz
   ·exact h1.1 y hy
  ·split
   ·exact h
   ·rename_i h2 h3
    refine List.pairwise_cons.2 ⟨fun y hy => ?_, h⟩
    rcases List.mem_cons.1 hy with rfl | hy
    ·omega
    ·have := h1.1 y hy
     omega
theorem inc_unique : ∀ {a b : List Int}, Inc a → Inc b → (∀ x, x ∈ a ↔ x ∈ b) → a = b
 | [], [], _, _, _ => rfl
 | [], y :: s, _, _, h => by have := (h y).2 (by simp); simp at this
 | x :: r, [], _, _, h => by have := (h x).1 (by simp); simp at this
 | x :: r, y :: s, ha, hb, h => by
  have h1 := List.pairwise_cons.1 ha
  have h2 := List.pairwise_cons.1 hb
  have hxy : x = y := by
   have p := (h x).1 (by simp)
   have q := (h y).2 (by simp)
   rcases List.mem_cons.1 p with p | p
   ·exact p
   ·rcases List.mem_cons.1 q with q | q
    ·exact q.symm
    ·have := h1.1 y q
     have := h2.1 x p
     omega
  subst hxy
  congr 1
  refine inc_unique h1.2 h2.2 fun z => ?_
  have hz := h z
  constructor
  ·intro hzr
   have := hz.1 (List.mem_cons_of_mem _ hzr)
   rcases List.mem_cons.1 this with e | e
   ·have := h1.1 z hzr
    omega
   ·exact e
  ·intro hzs
   have := hz.2 (List.mem_cons_of_mem _ hzs)
   rcases List.mem_cons.1 this with e | e
   ·have := h2.1 z hzs
    omega
   ·exact e
theorem foldl_ins (l : List Int) : ∀ s, Inc s → Inc (l.foldl (fun s x => ins x s) s) ∧ ∀ y, y ∈ l.foldl (fun s x => ins x s) s ↔ y ∈ s ∨ y ∈ l := by
 induction l with
 | nil => intro s hs; exact ⟨hs, fun y => by simp⟩
 | cons x r ih =>
  intro s hs
  obtain ⟨h1, h2⟩ := ih (ins x s) (inc_ins hs)
  refine ⟨h1, fun y => ?_⟩
  rw [List.foldl_cons, h2, mem_ins, List.mem_cons]
  constructor
  ·rintro ((h | h) | h)
   ·exact .inr (.inl h)
   ·exact .inl h
   ·exact .inr (.inr h)
  ·rintro (h | h | h)
   ·exact .inl (.inr h)
   ·exact .inl (.inl h)
   ·exact .inr h
theorem inc_setOf (l : List Int) : Inc (setOf l) := (foldl_ins l [] List.Pairwise.nil).1
theorem mem_setOf {l : List Int} {y : Int} : y ∈ setOf l ↔ y ∈ l := by
 have h := (foldl_ins l [] List.Pairwise.nil).2 y
 rw [setOf, h]
 simp
theorem compact_upto (s : List Int) (hs : s.Pairwise (· ≤ ·)) : ∀ m, m ≤ s.length → Inc (Lib.compactUpTo s.toArray m) ∧ ∀ y, y ∈ Lib.compactUpTo s.toArray m ↔ y ∈ s.take m
 | 0, _ => by simp [Lib.compactUpTo, Inc]
 | m + 1, hm => by
  obtain ⟨h1, h2⟩ := compact_upto s hs m (by omega)
  have hlt : m < s.length := by omega
  have hget : s.toArray[m]! = s[m] := by simp [hlt]
  have htake : s.take (m + 1) = s.take m ++ [s[m]] := List.take_succ_eq_append_getElem hlt
  rw [Lib.compactUpTo_succ]
  by_cases hk : Lib.keeps s.toArray m = true
  ·rw [if_pos hk, hget]
   constructor
   ·refine List.pairwise_append.2 ⟨h1, by simp, ?_⟩
    intro a ha b hb
    rw [List.mem_singleton] at hb
    subst hb
    have ha' := (h2 a).1 ha
    obtain ⟨i, hi, rfl⟩ := List.mem_iff_getElem.1 ha'
    have him : i < m := by simp at hi; omega
    rw [List.getElem_take]
    unfold Lib.keeps at hk
    have hk' := of_decide_eq_true hk
    rcases hk' with h0 | hne
    ·omega
    ·have hg1 : s.toArray[m - 1]! = s[m - 1] := by simp [show m - 1 < s.length by omega]
     rw [hget, hg1] at hne
     have hp := List.pairwise_iff_getElem.1 hs
     have h3 := hp (m - 1) m (by omega) hlt (by omega)
     have h4 : s[i] ≤ s[m - 1] := by
      rcases Nat.lt_or_ge i (m - 1) with h | h
      ·exact hp i (m - 1) (by omega) (by omega) h
      ·have : i = m - 1 := by omega
       subst this
       exact Int.le_refl _
     omega
   ·intro y
    rw [List.mem_append, htake, List.mem_append, h2]
  ·rw [if_neg hk, List.append_nil]
   refine ⟨h1, fun y => ?_⟩
   rw [htake, List.mem_append, h2]
   constructor
   ·exact .inl
   ·rintro (h | h)
    ·exact h
    ·rw [List.mem_singleton] at h
     subst h
     unfold Lib.keeps at hk
     have hk' : ¬ (m = 0 ∨ s.toArray[m]! ≠ s.toArray[m - 1]!) := fun h => hk (decide_eq_true h)
     have hm0 : m ≠ 0 := fun h => hk' (.inl h)
     have heq : s.toArray[m]! = s.toArray[m - 1]! := Classical.byContradiction fun h => hk' (.inr h)
     have hg1 : s.toArray[m - 1]! = s[m - 1] := by simp [show m - 1 < s.length by omega]
     rw [hget, hg1] at heq
     rw [heq]
     exact List.mem_iff_getElem.2 ⟨m - 1, by simp; omega, by simp⟩
theorem compact_sort (l : List Int) : Lib.compact (l.mergeSort fun x y => decide (x ≤ y)) = setOf l := by
 have hs : (l.mergeSort fun x y => decide (x ≤ y)).Pairwise (· ≤ ·) := by
  have := List.pairwise_mergeSort (le := fun (x y : Int) => decide (x ≤ y)) (fun a b c h1 h2 => by simp at *; omega) (fun a b => by simp; omega) l
  exact this.imp (fun h => by simpa using h)
 obtain ⟨h1, h2⟩ := compact_upto _ hs _ (Nat.le_refl _)
 refine inc_unique h1 (inc_setOf l) fun x => ?_
 unfold Lib.compact
 rw [h2, List.take_length, mem_setOf]
 exact (List.mergeSort_perm l _).mem_iff
theorem setCell_size (w : World) (a : Addr) (v : Value) : (w.setCell a v).heap.size = w.heap.size := by simp [World.setCell]
/-! ### What a call leaves alone, but for the blocks of T -/
structure Bel (T : Nat → Prop) (w w' : World) : Prop where
 os : w'.os = w.os
 tape : w'.tape = w.tape
 output : w'.output = w.output
 size : w.heap.size ≤ w'.heap.size
 block : ∀ k, k < w.heap.size → ¬ T k → w'.heap[k]? = w.heap[k]?
section
variable {T : Nat → Prop} {W w w1 : World}
theorem Bel.refl (T : Nat → Prop) (w : World) : Bel T w w := ⟨rfl, rfl, rfl, Nat.le_refl _, fun _ _ _ => rfl⟩
theorem Bel.trans (h : Bel T W w) {T' : Nat → Prop} (h' : Bel T' w w1) (hT : ∀ k, k < W.heap.size → T' k → T k) : Bel T W w1 :=
 ⟨h'.os.trans h.os, h'.tape.trans h.tape, h'.output.trans h.output, Nat.le_trans h.size h'.size, fun k hk hn => (h'.block k (Nat.lt_of_lt_of_le hk h.size) (fun x => hn (hT k hk x))).trans (h.block k hk hn)⟩
theorem Bel.below (h : Bel T W w) (h' : Below w.heap.size w w1) : Bel T W w1 :=
 ⟨h'.os.trans h.os, h'.tape.trans h.tape, h'.output.trans h.output, Nat.le_trans h.size h'.size, fun k hk hn => (h'.block k (Nat.lt_of_lt_of_le hk h.size)).trans (h.block k hk hn)⟩
theorem Bel.alloc (h : Bel T W w) (o : Obj) : Bel T W (w.alloc o) := h.below ((Below.refl _ _).alloc (Nat.le_refl _) o)
theorem Bel.drew (h : Bel T W w) : Bel T W w.drew := ⟨h.os, h.tape, h.output, h.size, h.block⟩
theorem Bel.grown (h : Bel T W w) {row : Option Nat} (h' : w.grownBy w1 row) (hr : ∀ k, row = some k → T k ∨ W.heap.size ≤ k) : Bel T W w1 :=
 ⟨h'.os.trans h.os, h'.tape.trans h.tape, h'.output.trans h.output, Nat.le_trans h.size h'.size, fun k hk hn => (h'.block k (Nat.lt_of_lt_of_le hk h.size) (fun e => by
  rcases hr k e.symm with h1 | h1
  ·exact hn h1
  ·omega)).trans (h.block k hk hn)⟩
theorem Bel.setCell (h : Bel T W w) (a : Addr) (v : Value) (ha : T a.block ∨ W.heap.size ≤ a.block) : Bel T W (w.setCell a v) :=
 ⟨h.os, h.tape, h.output, by rw [setCell_size]; exact h.size, fun k hk hn => (Below.heap_setCell w a v k (fun e => by
  rcases ha with h1 | h1
  ·exact hn (e ▸ h1)
  ·omega)).trans (h.block k hk hn)⟩
theorem Bel.out (h : Bel T W w) {base : Nat} (hb : base ≤ W.heap.size) (hT : ∀ k, T k → base ≤ k) : Below base W w :=
 ⟨h.os, h.tape, h.output, h.size, fun k hk => h.block k (Nat.lt_of_lt_of_le hk hb) (fun x => by have := hT k x; omega)⟩
end
theorem nodup_le : ∀ (n : Nat) (l : List Nat), l.Nodup → (∀ x ∈ l, x < n) → l.length ≤ n
 | 0, l, _, h => by
  cases l with
  | nil => simp
  | cons a r => exact absurd (h a (by simp)) (by omega)
 | n + 1, l, hl, h => by
  have h1 := nodup_le n (l.erase n) (hl.erase n) (fun x hx => by
   have hx' := (List.Nodup.mem_erase_iff hl).1 hx
   have := h x hx'.2
   have := hx'.1
   omega)
  rw [List.length_erase] at h1
  split at h1 <;> omega
theorem spot_of_cell {w : World} {ad : Addr} {v : Value} (h : w.cell? (ad.add 0) = some v) : ad = ⟨ad.block, ad.off, none⟩ := by
 have h0 : ad.add 0 = ad := by simp [Addr.add]
 rw [h0] at h
 unfold World.cell? at h
 cases hs : ad.spot with
 | none => cases ad; simp_all
 | some s =>
  rw [hs] at h
  split at h <;> simp at h
theorem cells_of_C {w : World} {A : Option Addr} {n : Nat} {l : List Int} (h : Kd.C (Kd.int .i64) w A n l) :
  (n = 0 ∧ l = []) ∨ (0 < n ∧ ∃ b off, A = some ⟨b, off, none⟩ ∧ ∀ j, j < l.length → w.cell? ⟨b, off + j, none⟩ = some (.int .i64 (l.getD j 0))) := by
 obtain ⟨hl, hm, hc⟩ := h
 rcases Nat.eq_zero_or_pos n with h0 | h0
 ·left
  exact ⟨h0, List.eq_nil_of_length_eq_zero (hl.trans h0)⟩
 ·right
  obtain ⟨ad, hA, hc2⟩ := hc h0
  subst hA
  have hcell : ∀ j, j < l.length → w.cell? (ad.add j) = some (.int .i64 (l.getD j 0)) := by
   intro j hj
   obtain ⟨c, hs, hr, hcc⟩ := hc2 j _ (List.getElem?_eq_getElem hj)
   have hr' : c = [.int .i64 (l[j])] := hr
   subst hr'
   have := hcc 0 _ rfl
   rw [show (Kd.int .i64).sz = 1 from rfl, Nat.mul_one, Nat.add_zero] at this
   rw [this]
   simp [List.getElem?_eq_getElem hj]
  have h1 := hcell 0 (by omega)
  have hs := spot_of_cell h1
  refine ⟨h0, ad.block, ad.off, congrArg some hs, fun j hj => ?_⟩
  have h2 := hcell j hj
  have : ad.add j = ⟨ad.block, ad.off + j, none⟩ := by
   unfold Addr.add
   split
   ·rename_i hz
    subst hz
    exact hs
   ·rfl
  rw [← this]
  exact h2
theorem clone_C (A : Option Addr) (n c : Nat) (l : List Int) (w : World) (hr : Kd.C (Kd.int .i64) w A n l) (hb : n * 8 ≤ 140737488355328) :
  Calls Try.prog 57 #[.slice A n c] w fun e w' => ∃ v' : Value, e = .returned v' ∧ w'.ownsRow w.heap.size 3 1 v' n (nums .i64 l) ∧ Below w.heap.size w w' := by
 rcases cells_of_C hr with ⟨rfl, rfl⟩ | ⟨h0, b, off, rfl, hc⟩
 ·cases A with
  | none =>
   refine (Try.slices_Clone_int_nil 0 c w).mono ?_
   rintro e w' ⟨rfl, rfl⟩
   exact ⟨_, rfl, own_nil _ _ _ _, Below.refl _ _⟩
  | some a =>
   refine (Try.slices_Clone_int_zero a c w).mono ?_
   rintro e w' ⟨v', rfl, ho, _, hB⟩
   exact ⟨_, rfl, by simpa [nums] using ho, hB⟩
 ·have hl : l.length = n := hr.1
  refine (Try.slices_Clone_int b off n c l w (by omega) hb hc).mono ?_
  rintro e w' ⟨v', rfl, ho, _, hB⟩
  rw [← hl, List.take_length, hl] at ho
  exact ⟨_, rfl, ho, hB⟩
theorem sort_own (base : Nat) (v : Value) (l : List Int) (w : World) (ho : w.ownsRow base 3 1 v l.length (nums .i64 l)) (hl : l.length < 4611686018427387904) :
  Calls Try.prog 96 #[v] w fun e w' => e = .returned (.tuple #[]) ∧ w'.ownsRow base 3 1 v l.length (nums .i64 (l.mergeSort fun x y => decide (x ≤ y))) ∧ w.grownBy w' v.ownBlock := by
 by_cases hv : v = .slice none 0 0
 ·subst hv
  have h0 : l = [] := by
   rcases ho.2 with ⟨_, h⟩ | ⟨g, cap, cur, h, _⟩
   ·exact List.eq_nil_of_length_eq_zero h
   ·cases h
  subst h0
  refine (Try.slices_Sort_int_none none 0 w).mono ?_
  rintro e w' ⟨rfl, rfl⟩
  exact ⟨rfl, by simpa using ho, World.grownBy.refl _ _⟩
 ·obtain ⟨g, cap, rfl, hbg, hgl, hncap, hcm, hlen, hH⟩ := Lib.holds_of_ownsRow (zs := l) ho hv
  refine (Try.slices_Sort_int g 0 cap l w hH hgl hl).mono ?_
  rintro e w' ⟨rfl, n, os, rfl⟩
  rcases ho.2 with ⟨h0, _⟩ | ⟨g', cap', cur, hv', hbase, hb, h1, h2, h3, h4⟩
  ·cases h0
  cases hv'
  exact ⟨rfl, ownsRow_sortedI (n := n) (os := os) (ts := l.mergeSort fun x y => decide (x ≤ y)) (List.length_mergeSort l) hbase hb h1 h2 h3, grownBy_sortedI _⟩
theorem compact_own (base : Nat) (v : Value) (l : List Int) (w : World) (ho : w.ownsRow base 3 1 v l.length (nums .i64 l)) :
  Calls Try.prog 97 #[v] w fun e w' => ∃ v' : Value, e = .returned v' ∧ w'.ownsRow base 3 1 v' (Lib.compact l).length (nums .i64 (Lib.compact l)) ∧ w.grownBy w' v.ownBlock ∧ v'.ownBlock = v.ownBlock := by
 by_cases hv : v = .slice none 0 0
 ·subst hv
  have h0 : l = [] := by
   rcases ho.2 with ⟨_, h⟩ | ⟨g, cap, cur, h, _⟩
   ·exact List.eq_nil_of_length_eq_zero h
   ·cases h
  subst h0
  refine (Try.slices_Compact_int_empty none 0 w).mono ?_
  rintro e w' ⟨rfl, rfl⟩
  exact ⟨_, rfl, own_nil _ _ _ _, World.grownBy.refl _ _, rfl⟩
 ·obtain ⟨g, cap, rfl, hbg, hgl, hncap, hcm, hlen, hH⟩ := Lib.holds_of_ownsRow (zs := l) ho hv
  simp only [maxLen] at hcm
  refine (Try.slices_Compact_int g 0 cap l w hH (by omega) hncap).mono ?_
  rintro e w' ⟨rfl, q, rfl⟩
  have hle := Lib.compact_length_le l
  have hc := Lib.ownsRow_putRow (q := q) (k := (Lib.compact l).length) (ys := Lib.compact l ++ List.replicate (l.length - (Lib.compact l).length) 0) (zs := l) ho (by simp; omega) (by omega)
  rw [List.take_left] at hc
  refine ⟨_, rfl, hc, ?_, rfl⟩
  have := grownBy_sortedI (w := w) (g := g) (n := q) (os := #[]) (Lib.compact l ++ List.replicate (l.length - (Lib.compact l).length) 0).toArray
  rw [Sort.grow_empty] at this
  exact this
def sets_Of.f (l0 : List Int) : Option (List Int) := if l0.length < 17592186044416 then some (setOf l0) else none
theorem R_of_owns {w : World} {base : Nat} {v : Value} {l : List Int} (h : w.ownsRow base 3 1 v l.length (nums .i64 l)) : Kd.R (Kd.int .i64) 3 w base (fun _ => True) v l :=
 ⟨fun _ _ => trivial, nums .i64 l, h, by show (nums .i64 l).length = l.length * 1; simp [nums], fun j p hj => by
  have hjl := (List.getElem?_eq_some_iff.1 hj).1
  have hp : p = l[j] := (List.getElem?_eq_some_iff.1 hj).2.symm
  subst hp
  show (List.take 1 (List.drop (j * 1) (nums .i64 l))) = [Value.int .i64 l[j]]
  rw [Nat.mul_one, nums, ← List.map_drop, List.drop_eq_getElem_cons hjl]
  rfl⟩
set_option maxHeartbeats 800000 in
theorem sets_Of.calls (A0 : Option Addr) (c0 : Nat) (l0 : List Int) (r : List Int) (w : World) (hr0 : Kd.C (Kd.int .i64) w A0 l0.length l0) (hc0 : l0.length ≤ c0) (h : sets_Of.f l0 = some r) :
  Calls Try.prog 85 #[.slice A0 l0.length c0] w fun e w' => ∃ v0_ : Value, e = .returned (v0_) ∧ Kd.R (Kd.int .i64) 3 w' w.heap.size (fun _ => True) v0_ r ∧ Below w.heap.size w w' := by
 unfold sets_Of.f at h
 by_cases hl : l0.length < 17592186044416
 ·rw [if_pos hl] at h
  obtain rfl := Option.some.inj h
  clear h
  have h1 := Aside0.mk (clone_C A0 l0.length c0 l0 w hr0 (by omega))
  clear hr0 hc0
  go_enter Try.func85, Try.ntmps85
  go_wp2_with fail
  refine h1.out.mono ?_
  rintro e w1 ⟨v1, rfl, ho1, hB1⟩
  have h2 := Aside0.mk (sort_own _ v1 l0 w1 ho1 (by omega))
  have H1 := Aside0.mk hB1
  have O1 := Aside0.mk ho1
  clear ho1 hB1
  go_wp2_with fail
  refine h2.out.mono ?_
  rintro e w2 ⟨rfl, ho2, hg2⟩
  have hlm : (l0.mergeSort fun x y => decide (x ≤ y)).length = l0.length := List.length_mergeSort l0
  have h3 := Aside0.mk (compact_own _ v1 (l0.mergeSort fun x y => decide (x ≤ y)) w2 (by rw [hlm]; exact ho2))
  have H2 := Aside0.mk hg2
  clear ho2 hg2 hlm
  go_wp2_with fail
  refine h3.out.mono ?_
  rintro e w3 ⟨v3, rfl, ho3, hg3, _⟩
  have O3 := Aside0.mk ho3
  have H3 := Aside0.mk hg3
  clear ho3 hg3
  go_wp2_with fail
  go_ret
  have hb : ∀ k, v1.ownBlock = some k → w.heap.size ≤ k := own_base O1.out
  exact ⟨_, rfl, by rw [← compact_sort]; exact R_of_owns O3.out, (H1.out.grown H2.out H1.out.size hb).grown H3.out (Nat.le_trans H1.out.size H2.out.size) hb⟩
 ·rw [if_neg hl] at h
  cases h
/-! ### 1. Lists of keys -/
def kput (ks : List Int) (k : Int) : List Int := if k ∈ ks then ks else ks ++ [k]
def kmap (ks : List Int) : List (Int × Bool) := ks.map fun k => (k, true)
/-! ### 2. Elimination -/
abbrev Nbs := List (Option (List Int))
def kOf (G : Nbs) (u : Int) : List Int := (G.getD u.toNat none).getD []
def kSet (G : Nbs) (u : Int) (ks : List Int) : Nbs := G.set u.toNat (some ks)
def kLink (G : Nbs) (u w : Int) : Nbs := let G1 := kSet G u (kput (kOf G u) w); kSet G1 w (kput (kOf G1 w) u)
def elimIn (u : Int) : List Int → Nbs → Int → Nbs × Int
 | [], G, f => (G, f)
 | w :: r, G, f => if w ∈ kOf G u then elimIn u r G f else elimIn u r (kLink G u w) (wrap64 (f + 1))
def elimGo (v : Int) : List Int → List Int → Nbs → Int → Nbs × Int
 | _, [], G, f => (G, f)
 | done, u :: r, G, f => let s := elimIn u done (kSet G u ((kOf G u).erase v)) f; elimGo v (done ++ [u]) r s.1 s.2
def elim (G : Nbs) (v : Int) : Nbs × Int := let s := elimGo v [] (setOf (kOf G v)) G 0; (s.1.set v.toNat none, s.2)
def Alive (G : Nbs) (u : Int) : Prop := 0 ≤ u ∧ u.toNat < G.length ∧ ∃ ks, G[u.toNat]? = some (some ks)
theorem Alive.keys {G : Nbs} {u : Int} (h : Alive G u) : G[u.toNat]? = some (some (kOf G u)) := by
 obtain ⟨_, h1, ks, h2⟩ := h
 unfold kOf
 rw [List.getD_eq_getElem?_getD, h2]
 rfl
theorem kSet_length (G : Nbs) (u : Int) (ks : List Int) : (kSet G u ks).length = G.length := by simp [kSet]
theorem kSet_alive {G : Nbs} {u : Int} (hu : Alive G u) (ks : List Int) {x : Int} : Alive (kSet G u ks) x ↔ Alive G x := by
 unfold Alive
 rw [kSet_length]
 constructor
 ·rintro ⟨h1, h2, ks', h3⟩
  refine ⟨h1, h2, ?_⟩
  unfold kSet at h3
  rw [List.getElem?_set] at h3
  split at h3
  ·rename_i e
   rw [← e]
   exact hu.2.2
  ·exact ⟨_, h3⟩
 ·rintro ⟨h1, h2, ks', h3⟩
  refine ⟨h1, h2, ?_⟩
  unfold kSet
  rw [List.getElem?_set]
  split
  ·exact ⟨ks, by rw [if_pos hu.2.1]⟩
  ·exact ⟨_, h3⟩
theorem kOf_kSet {G : Nbs} {u : Int} (hu : Alive G u) (ks : List Int) {x : Int} (hx : 0 ≤ x) : kOf (kSet G u ks) x = if x = u then ks else kOf G x := by
 unfold kOf kSet
 rw [List.getD_eq_getElem?_getD, List.getElem?_set]
 by_cases h : x = u
 ·subst h
  rw [if_pos rfl, if_pos hu.2.1, if_pos rfl]
  rfl
 ·have : ¬ u.toNat = x.toNat := by
   have := hu.1
   omega
  rw [if_neg this, if_neg h, List.getD_eq_getElem?_getD]
/-! ### 3. A slice of maps -/
structure NbIs (w : World) (base B : Nat) (bs : Nat → Nat) (G : Nbs) : Prop where
 cell : ∀ i, i < G.length → w.cell? ⟨B, i, none⟩ = some (.map ((G.getD i none).map fun _ => bs i))
 maps : ∀ i ks, G[i]? = some (some ks) → MapIs (Value.int .i64) Value.bool w (bs i) (kmap ks)
 inj : ∀ i j, i < G.length → j < G.length → bs i = bs j → i = j
 lo : base ≤ B
 los : ∀ i, i < G.length → base ≤ bs i
 ne : ∀ i, i < G.length → bs i ≠ B
 top : B < w.heap.size
 tops : ∀ i, i < G.length → bs i < w.heap.size
 frz : ∀ i, w.frozen? ⟨B, i, none⟩ = false
section
variable {w w1 : World} {base B : Nat} {bs : Nat → Nat} {G : Nbs}
theorem NbIs.below (h : NbIs w base B bs G) (hb : Below w.heap.size w w1) : NbIs w1 base B bs G :=
 ⟨fun i hi => pw_cell_below hb (h.cell i hi), fun i ks hk => (h.maps i ks hk).below hb, h.inj, h.lo, h.los, h.ne, Nat.lt_of_lt_of_le h.top hb.size, fun i hi => Nat.lt_of_lt_of_le (h.tops i hi) hb.size, fun i => (World.frozen?_of_block (hb.block B h.top)).trans (h.frz i)⟩
theorem NbIs.drew (h : NbIs w base B bs G) : NbIs w.drew base B bs G := ⟨h.cell, h.maps, h.inj, h.lo, h.los, h.ne, h.top, h.tops, h.frz⟩
theorem NbIs.drewN (h : NbIs w base B bs G) (n : Nat) : NbIs (w.drewN n) base B bs G := ⟨h.cell, h.maps, h.inj, h.lo, h.los, h.ne, h.top, h.tops, h.frz⟩
theorem NbIs.grown (h : NbIs w base B bs G) {row : Option Nat} (hg : w.grownBy w1 row) (hB : some B ≠ row) (hbs : ∀ i, i < G.length → some (bs i) ≠ row) : NbIs w1 base B bs G :=
 ⟨fun i hi => cell_grown hg (h.cell i hi) hB, fun i ks hk => (h.maps i ks hk).grown hg (hbs i (List.getElem?_eq_some_iff.1 hk).1), h.inj, h.lo, h.los, h.ne, Nat.lt_of_lt_of_le h.top hg.size, fun i hi => Nat.lt_of_lt_of_le (h.tops i hi) hg.size, fun i => (World.frozen?_of_block (hg.block B h.top hB)).trans (h.frz i)⟩
end
def KNd (G : Nbs) : Prop := ∀ x, Alive G x → (kOf G x).Nodup
theorem KNd.kSet {G : Nbs} (h : KNd G) {u : Int} (hu : Alive G u) {ks : List Int} (hk : ks.Nodup) : KNd (kSet G u ks) := fun x hx => by
 rw [kOf_kSet hu ks hx.1]
 split
 ·exact hk
 ·exact h x ((kSet_alive hu ks).1 hx)
end Go.Proofs.Ytfnophaiamkmpaa.Print
