/- Maps that a call makes, in plain words: a block that holds a list of keys and elements in the order of their coming; look-up, store, delete and length as steps of a walk. -/
import Derived.Test.YtcfeehaoeaoegaaV0
import Derived.Maps.OwnOps
import Derived.Maps.RangeWalk
namespace Go.Proofs.Ytcfeehaoeaoegaa.Print
open Go.RowKit Go.Proofs.YtcfeehaoeaoegaaW.PrintWords Go.Proofs.YtcfeehaoeaoegaaW.PrintLast Go.Proofs.YtcfeehaoeaoegaaW.PrintMore
set_option linter.unusedVariables false
set_option linter.unusedSimpArgs false

/-! ### 1. Lists of keys and elements -/
section
variable {κ ε : Type} [DecidableEq κ]
def midx : List (κ × ε) → κ → Nat → Option (Nat × ε)
  | [], _, _ => none
  | p :: r, k, i => if p.1 = k then some (i, p.2) else midx r k (i + 1)
def mget (m : List (κ × ε)) (k : κ) : Option ε := (midx m k 0).map Prod.snd
def mput : List (κ × ε) → κ → ε → List (κ × ε)
  | [], k, v => [(k, v)]
  | p :: r, k, v => if p.1 = k then (k, v) :: r else p :: mput r k v
def mdel : List (κ × ε) → κ → List (κ × ε)
  | [], _ => []
  | p :: r, k => if p.1 = k then r else p :: mdel r k
theorem midx_shift (m : List (κ × ε)) (k : κ) : ∀ i j, (midx m k i).map Prod.snd = (midx m k j).map Prod.snd := by
  induction m with
  | nil => intro i j; rfl
  | cons p r ih =>
    intro i j
    unfold midx
    split
    · rfl
    · exact ih _ _
theorem mget_nil (k : κ) : mget ([] : List (κ × ε)) k = none := rfl
theorem mget_cons (p : κ × ε) (r : List (κ × ε)) (k : κ) : mget (p :: r) k = if p.1 = k then some p.2 else mget r k := by
  unfold mget
  conv => lhs; unfold midx
  split
  · rfl
  · exact midx_shift r k _ _
theorem mget_mput (m : List (κ × ε)) (k k' : κ) (v : ε) : mget (mput m k v) k' = if k = k' then some v else mget m k' := by
  induction m with
  | nil => simp [mput, mget_cons, mget_nil]
  | cons p r ih =>
    unfold mput
    by_cases h : p.1 = k
    · rw [if_pos h, mget_cons, mget_cons, h]
      by_cases h2 : k = k' <;> simp [h2]
    · rw [if_neg h, mget_cons, mget_cons, ih]
      by_cases h2 : p.1 = k'
      · have : ¬ k = k' := fun e => h (h2.trans e.symm)
        simp [h2, this]
      · simp [h2]
theorem mget_isSome (m : List (κ × ε)) (k : κ) : (mget m k).isSome = true ↔ k ∈ m.map Prod.fst := by
  induction m with
  | nil => simp [mget_nil]
  | cons p r ih =>
    rw [mget_cons]
    by_cases h : p.1 = k
    · simp [h]
    · rw [if_neg h, ih]
      have h' : ¬ k = p.1 := fun e => h e.symm
      simp [h']
theorem mput_keys (m : List (κ × ε)) (k k' : κ) (v : ε) : k' ∈ (mput m k v).map Prod.fst ↔ k' = k ∨ k' ∈ m.map Prod.fst := by
  rw [← mget_isSome, ← mget_isSome, mget_mput]
  by_cases h : k = k'
  · simp [h]
  · have h' : ¬ k' = k := fun e => h e.symm
    simp [h, h']
end

/-! ### 2. A map's block -/
/-- Block b is a map that holds m. -/
def MapIs {κ ε : Type} (encK : κ → Value) (encE : ε → Value) (w : World) (b : Nat) (m : List (κ × ε)) : Prop :=
  ∃ es clock, w.heap[b]? = some (.map es clock) ∧ es.toList.map (fun x => (x.key, x.val)) = m.map (fun p => (encK p.1, encE p.2)) ∧ (∀ x ∈ es.toList, x.born < clock) ∧ (es.toList.map (·.born)).Nodup
/-- A type of keys: how the machine finds one. -/
structure KeyKind {κ : Type} [DecidableEq κ] (P : Program) (kt : TypeId) (encK : κ → Value) : Prop where
  find : ∀ {ε : Type} (encE : ε → Value) (k : κ) (es : List MapEntry) (m : List (κ × ε)) (w : World), es.map (fun x => (x.key, x.val)) = m.map (fun p => (encK p.1, encE p.2)) →
    (Instr.findKey kt (encK k) es).run P w = .ok ((midx m k 0).map fun q => (q.1, encE q.2)) w
  check : ∀ (e : Bool) (k : κ) (w : World), (Instr.checkKey e 10000 kt (encK k)).run P w = .ok () w
  same : ∀ (k : κ), Instr.sameBits 10000 (encK k) (encK k) = true
  inj : ∀ k k' : κ, encK k = encK k' → k = k'
theorem findNow_int {ε : Type} (encE : ε → Value) (k : Int) : ∀ (es : List MapEntry) (m : List (Int × ε)) (i : Nat), es.map (fun x => (x.key, x.val)) = m.map (fun p => (Value.int .i64 p.1, encE p.2)) →
    Instr.findNow (.int .i64) (.int .i64 k) es i = some ((midx m k i).map fun q => (q.1, encE q.2))
  | [], [], i, _ => rfl
  | [], p :: r, i, h => by simp at h
  | x :: es, [], i, h => by simp at h
  | x :: es, p :: r, i, h => by
    simp only [List.map_cons, List.cons.injEq, Prod.mk.injEq] at h
    obtain ⟨⟨hk, hv⟩, h⟩ := h
    unfold Instr.findNow midx
    rw [hk, hv]
    by_cases he : p.1 = k
    · have : (k == p.1) = true := by simp [he]
      simp [Instr.sameNow, this, he]
    · have : (k == p.1) = false := by simp; exact fun e => he e.symm
      simp only [Instr.sameNow, if_true, this]
      rw [if_neg he]
      exact findNow_int encE k es r (i + 1) h
theorem intKey {P : Program} {kt : TypeId} (h : P.underlying kt = some (.int .i64)) : KeyKind P kt (Value.int .i64) where
  find := by
    intro ε encE k es m w he
    unfold Instr.findKey
    simp [run_underlying h, findNow_int encE k es m 0 he]
  check := by
    intro e k w
    unfold Instr.checkKey
    simp [run_underlying h]
  same := by intro k; simp [Instr.sameBits]
  inj := by intro k k' h; injection h
section
variable {κ ε : Type} {encK : κ → Value} {encE : ε → Value} {w w1 : World} {b : Nat} {m : List (κ × ε)}
theorem MapIs.lt (h : MapIs encK encE w b m) : b < w.heap.size := by
  obtain ⟨es, clock, hb, _⟩ := h
  exact (Array.getElem?_eq_some_iff.1 hb).1
theorem MapIs.keep (h : MapIs encK encE w b m) (hk : w1.heap[b]? = w.heap[b]?) : MapIs encK encE w1 b m := by
  obtain ⟨es, clock, hb, r⟩ := h
  exact ⟨es, clock, hk.trans hb, r⟩
theorem MapIs.below (h : MapIs encK encE w b m) (hb : Below w.heap.size w w1) : MapIs encK encE w1 b m := h.keep (hb.block b h.lt)
theorem MapIs.alloc (h : MapIs encK encE w b m) (o : Obj) : MapIs encK encE (w.alloc o) b m := h.below ((Below.refl _ _).alloc (Nat.le_refl _) o)
theorem MapIs.drewN (h : MapIs encK encE w b m) (n : Nat) : MapIs encK encE (w.drewN n) b m := h
theorem MapIs.drew (h : MapIs encK encE w b m) : MapIs encK encE w.drew b m := h
theorem MapIs.ne_cells (h : MapIs encK encE w b m) {g : Nat} {cs : Array Value} {t : TypeId} {fr : Nat × Nat} (hg : w.heap[g]? = some (.cells cs t fr)) : b ≠ g := by
  obtain ⟨es, clock, hb, _⟩ := h
  rintro rfl
  rw [hb] at hg
  cases hg
theorem MapIs.grown (h : MapIs encK encE w b m) {row : Option Nat} (hg : w.grownBy w1 row) (hne : some b ≠ row) : MapIs encK encE w1 b m := h.keep (hg.block b h.lt hne)
theorem MapIs.setCell (h : MapIs encK encE w b m) (p : Addr) (v : Value) : MapIs encK encE (w.setCell p v) b m := by
  obtain ⟨es, clock, hb, r⟩ := h
  refine ⟨es, clock, ?_, r⟩
  by_cases hp : p.block = b
  · subst hp
    simp [World.setCell, Array.getElem?_modify, hb]
  · rw [Below.heap_setCell w p v b (fun e => hp e.symm)]
    exact hb
theorem MapIs.made (w : World) : MapIs encK encE (w.alloc (.map #[] 0)) w.heap.size [] := ⟨#[], 0, heap_alloc_new w _, rfl, by simp, by simp⟩
theorem MapIs.set (h : MapIs encK encE w b m) (es : Array MapEntry) (clock : Nat) {m' : List (κ × ε)} (hm : es.toList.map (fun x => (x.key, x.val)) = m'.map (fun p => (encK p.1, encE p.2))) (hb : ∀ x ∈ es.toList, x.born < clock) (hn : (es.toList.map (·.born)).Nodup) :
    MapIs encK encE { w with heap := w.heap.setIfInBounds b (.map es clock) } b m' ∧ w.grownBy { w with heap := w.heap.setIfInBounds b (.map es clock) } (some b) := by
  have hlt := h.lt
  refine ⟨⟨es, clock, ?_, hm, hb, hn⟩, rfl, rfl, rfl, by simp, fun k hk hne => ?_⟩
  · simp [Array.getElem?_setIfInBounds, hlt]
  · have : b ≠ k := fun e => hne (by rw [e])
    simp [Array.getElem?_setIfInBounds, this]
end
section
variable {κ ε : Type} [DecidableEq κ]
theorem midx_lt {k : κ} : ∀ (m : List (κ × ε)) (i : Nat) {j : Nat} {v : ε}, midx m k i = some (j, v) → i ≤ j ∧ ∃ h : j - i < m.length, (m[j - i]).1 = k
  | [], i, j, v, h => by simp [midx] at h
  | p :: r, i, j, v, h => by
    unfold midx at h
    split at h
    · rename_i hp
      simp only [Option.some.injEq, Prod.mk.injEq] at h
      obtain ⟨rfl, _⟩ := h
      exact ⟨Nat.le_refl _, by simp, by simp [hp]⟩
    · obtain ⟨h1, h2, h3⟩ := midx_lt r (i + 1) h
      refine ⟨by omega, by simp; omega, ?_⟩
      obtain ⟨d, hd⟩ : ∃ d, j - i = d + 1 := ⟨j - (i + 1), by omega⟩
      have hd' : j - (i + 1) = d := by omega
      simp only [hd, List.getElem_cons_succ]
      simp only [hd'] at h3
      exact h3
theorem mput_some {k : κ} {v' : ε} : ∀ (m : List (κ × ε)) (i : Nat) {j : Nat} {v : ε}, midx m k i = some (j, v) → mput m k v' = m.set (j - i) (k, v')
  | [], i, j, v, h => by simp [midx] at h
  | p :: r, i, j, v, h => by
    unfold midx at h
    unfold mput
    split at h
    · rename_i hp
      simp only [Option.some.injEq, Prod.mk.injEq] at h
      obtain ⟨rfl, _⟩ := h
      simp [hp]
    · rename_i hp
      obtain ⟨h1, _⟩ := midx_lt r (i + 1) h
      rw [if_neg hp, mput_some r (i + 1) h]
      obtain ⟨d, hd⟩ : ∃ d, j - i = d + 1 := ⟨j - (i + 1), by omega⟩
      have hd' : j - (i + 1) = d := by omega
      rw [hd, hd']
      rfl
theorem mput_none {k : κ} {v' : ε} : ∀ (m : List (κ × ε)) (i : Nat), midx m k i = none → mput m k v' = m ++ [(k, v')]
  | [], i, h => rfl
  | p :: r, i, h => by
    unfold midx at h
    unfold mput
    split at h
    · cases h
    · rename_i hp
      rw [if_neg hp, mput_none r (i + 1) h]
      rfl
theorem mdel_some {k : κ} : ∀ (m : List (κ × ε)) (i : Nat) {j : Nat} {v : ε}, midx m k i = some (j, v) → mdel m k = m.eraseIdx (j - i)
  | [], i, j, v, h => by simp [midx] at h
  | p :: r, i, j, v, h => by
    unfold midx at h
    unfold mdel
    split at h
    · rename_i hp
      simp only [Option.some.injEq, Prod.mk.injEq] at h
      obtain ⟨rfl, _⟩ := h
      simp [hp]
    · rename_i hp
      obtain ⟨h1, _⟩ := midx_lt r (i + 1) h
      rw [if_neg hp, mdel_some r (i + 1) h]
      obtain ⟨d, hd⟩ : ∃ d, j - i = d + 1 := ⟨j - (i + 1), by omega⟩
      have hd' : j - (i + 1) = d := by omega
      rw [hd, hd']
      rfl
theorem mdel_none {k : κ} : ∀ (m : List (κ × ε)) (i : Nat), midx m k i = none → mdel m k = m
  | [], i, h => rfl
  | p :: r, i, h => by
    unfold midx at h
    unfold mdel
    split at h
    · cases h
    · rename_i hp
      rw [if_neg hp, mdel_none r (i + 1) h]
end

/-! ### 3. The machine's operations -/
section
variable {κ ε : Type} [DecidableEq κ] {encK : κ → Value} {encE : ε → Value} {P : Program} {w : World} {b : Nat} {m : List (κ × ε)} {t kt et : TypeId}
theorem run_lookup_map (K : KeyKind P kt encK) (ht : P.underlying t = some (.map kt et)) (h : MapIs encK encE w b m) (z : ε) (hz : ∀ w, (zeroValue et).run P w = .ok (encE z) w) (k : κ) (c : Bool) :
    (Instr.lookup t (.map (some b)) (encK k) c).run P w = .ok (if c then .tuple #[encE ((mget m k).getD z), .bool (mget m k).isSome] else encE ((mget m k).getD z)) w := by
  obtain ⟨es, clock, hb, hm, _⟩ := h
  have hf := K.find encE k es.toList m w hm
  have hc := K.check es.isEmpty k w
  unfold Instr.lookup
  simp only [Sem.run_bind, run_underlying ht, Result.andThen_ok]
  have hg : ∀ w0 : World, w0.heap[b]? = some (.map es clock) → (getObj b).run P w0 = .ok (.map es clock) w0 := by
    intro w0 h0
    simp [getObj, Sem.run, h0]
  simp only [hg w hb, Result.andThen_ok, Sem.run_pure, hc, hf]
  unfold mget
  cases hi : midx m k 0 with
  | none => cases c <;> simp [hz, hc, hf, hi]
  | some q => cases c <;> simp [hc, hf, hi]
theorem run_mapUpdate_map (K : KeyKind P kt encK) (ht : P.underlying t = some (.map kt et)) (h : MapIs encK encE w b m) (k : κ) (v : ε) :
    ∃ w1, (Instr.mapUpdate t (.map (some b)) (encK k) (encE v)).run P w = .ok () w1 ∧ MapIs encK encE w1 b (mput m k v) ∧ w.grownBy w1 (some b) := by
  have H := h
  obtain ⟨es, clock, hb, hm, hborn, hnd⟩ := h
  have hf := K.find encE k es.toList m w hm
  have hc := K.check false k w
  have hlen : es.size = m.length := by
    have := congrArg List.length hm
    simpa using this
  have hg : (getObj b).run P w = .ok (.map es clock) w := by simp [getObj, Sem.run, hb]
  have hs : ∀ o, (setObj b o).run P w = .ok () { w with heap := w.heap.setIfInBounds b o } := by
    intro o
    simp [setObj, Sem.run, hb]
  unfold Instr.mapUpdate
  simp only [Sem.run_bind, run_underlying ht, Result.andThen_ok, hg, hc, hf]
  cases hi : midx m k 0 with
  | none =>
    simp only [Option.map_none, hs]
    refine ⟨_, rfl, H.set _ _ ?_ ?_ ?_⟩
    · rw [mput_none m 0 hi]
      simp [hm]
    · intro x hx
      simp only [Array.toList_push, List.mem_append, List.mem_singleton] at hx
      rcases hx with hx | rfl
      · have := hborn x hx
        omega
      · simp
    · simp only [Array.toList_push, List.map_append, List.map_cons, List.map_nil]
      rw [List.nodup_append]
      refine ⟨hnd, by simp, ?_⟩
      intro a ha c hc2
      simp only [List.mem_singleton] at hc2
      obtain ⟨x, hx, rfl⟩ := List.mem_map.1 ha
      have := hborn x hx
      omega
  | some q =>
    obtain ⟨j, v0⟩ := q
    obtain ⟨_, hjl, hjk⟩ := midx_lt m 0 hi
    have hset := mput_some (v' := v) m 0 hi
    simp only [Nat.sub_zero] at hjl hjk hset
    have hje : j < es.size := by omega
    have hkey : (es[j]).key = encK k := by
      have h1 : (es.toList.map (fun x => (x.key, x.val)))[j]? = (m.map (fun p => (encK p.1, encE p.2)))[j]? := by rw [hm]
      rw [List.getElem?_map, List.getElem?_map, List.getElem?_eq_getElem (by simpa using hje), List.getElem?_eq_getElem hjl] at h1
      simp only [Option.map_some, Option.some.injEq, Prod.mk.injEq] at h1
      rw [Array.getElem_toList] at h1
      rw [h1.1, hjk]
    have hks : (Instr.keyThatStays (((es[j]?).map (·.key)).getD (encK k)) (encK k)).run P w = .ok (encK k) w := by
      rw [Array.getElem?_eq_getElem hje]
      simp only [Option.map_some, Option.getD_some, hkey]
      unfold Instr.keyThatStays
      rw [if_pos (K.same k)]
      rfl
    simp only [Option.map_some]
    have hmod : (es.modify j fun e => { e with key := encK k, val := encE v }).toList = es.toList.modify j fun e => { e with key := encK k, val := encE v } := by simp
    refine ⟨_, by rw [Sem.run_bind, hks, Result.andThen_ok, hs], H.set _ _ ?_ ?_ ?_⟩
    · rw [hset, hmod, List.map_set, ← hm]
      apply List.ext_getElem?
      intro i
      rw [List.getElem?_map, List.getElem?_modify, List.getElem?_set, List.getElem?_map]
      by_cases hij : j = i
      · subst hij
        simp [List.getElem?_eq_getElem (show j < es.toList.length by simpa using hje), hje]
      · simp [hij]
    · intro x hx
      rw [hmod] at hx
      obtain ⟨i, hi', rfl⟩ := List.mem_iff_getElem.1 hx
      rw [List.getElem_modify]
      have hil : i < es.toList.length := by simpa using hi'
      have hq := hborn _ (List.getElem_mem hil)
      split <;> exact hq
    · rw [hmod]
      have : (es.toList.modify j fun e => { e with key := encK k, val := encE v }).map (·.born) = es.toList.map (·.born) := by
        apply List.ext_getElem?
        intro i
        rw [List.getElem?_map, List.getElem?_modify, List.getElem?_map]
        by_cases hij : j = i
        · subst hij
          cases h0 : es.toList[j]? <;> simp
        · simp [hij]
      rw [this]
      exact hnd
end
section
variable {κ ε : Type} [DecidableEq κ] {encK : κ → Value} {encE : ε → Value} {P : Program} {w : World} {b : Nat} {m : List (κ × ε)} {t kt et : TypeId} {ops : Array Oper} {rest : List Oper} {o : Oper} {a : Act} {Q : Exit → Act → World → Prop}
theorem wp_lookup_map (K : KeyKind P kt encK) (ht : P.underlying t = some (.map kt et)) (z : ε) (hz : ∀ w, (zeroValue et).run P w = .ok (encE z) w) (hg : o.guard = none) (mo x : Operand) (c : Bool) (hop : o.op = Op.lookup t mo x c)
    (h : MapIs encK encE w b m) (k : κ) (hm : a.eval mo = .map (some b)) (hx : a.eval x = encK k) (v : Value) (hv : (if c then .tuple #[encE ((mget m k).getD z), .bool (mget m k).isSome] else encE ((mget m k).getD z)) = v)
    (hK : wpList P ops Q rest (a.put o.dst v) w) :
    wpList P ops Q (o :: rest) a w := by
  refine wpList_plain hg fun K' hK' => ?_
  have hrun := run_lookup_map K ht h z hz k c
  rw [hv] at hrun
  unfold Oper.wp
  simp only [execOp, hop, hm, hx, Sem.run_bind, hrun, Result.andThen_ok, Sem.run_pure]
  exact hK' _ _ hK
theorem wp_mapUpdate_map (K : KeyKind P kt encK) (ht : P.underlying t = some (.map kt et)) (hg : o.guard = none) (mo x vo : Operand) (hop : o.op = Op.mapUpdate t mo x vo) (hd : o.dst = none)
    (h : MapIs encK encE w b m) (k : κ) (v : ε) (hm : a.eval mo = .map (some b)) (hx : a.eval x = encK k) (hv : a.eval vo = encE v)
    (hK : ∀ w1, MapIs encK encE w1 b (mput m k v) → w.grownBy w1 (some b) → wpList P ops Q rest a w1) :
    wpList P ops Q (o :: rest) a w := by
  refine wpList_plain hg fun K' hK' => ?_
  obtain ⟨w1, hrun, h1, h2⟩ := run_mapUpdate_map K ht h k v
  unfold Oper.wp
  simp only [execOp, hop, hm, hx, hv, Sem.run_bind, hrun, Result.andThen_ok, Sem.run_pure]
  have := hK w1 h1 h2
  exact hK' _ _ (by rw [hd]; exact this)
end
end Go.Proofs.Ytcfeehaoeaoegaa.Print

namespace Go.Proofs.Ytcfeehaoeaoegaa.Print
open Go.RowKit Go.Proofs.YtcfeehaoeaoegaaW.PrintWords Go.Proofs.YtcfeehaoeaoegaaW.PrintLast Go.Proofs.YtcfeehaoeaoegaaW.PrintMore
open Go.ChangeMaps (setBlock)
set_option linter.unusedVariables false
set_option linter.unusedSimpArgs false
set_option linter.unusedSectionVars false

section
variable {κ ε : Type} [DecidableEq κ]
theorem midx_get {k : κ} : ∀ (m : List (κ × ε)) (i : Nat) {j : Nat} {v : ε}, midx m k i = some (j, v) → m[j - i]? = some (k, v)
  | [], i, j, v, h => by simp [midx] at h
  | p :: r, i, j, v, h => by
    unfold midx at h
    split at h
    · rename_i hp
      simp only [Option.some.injEq, Prod.mk.injEq] at h
      obtain ⟨rfl, rfl⟩ := h
      simp [← hp]
    · have h1 := midx_get r (i + 1) h
      obtain ⟨h2, _⟩ := midx_lt r (i + 1) h
      obtain ⟨d, hd⟩ : ∃ d, j - i = d + 1 := ⟨j - (i + 1), by omega⟩
      have hd' : j - (i + 1) = d := by omega
      rw [hd, List.getElem?_cons_succ, ← hd', h1]
theorem midx_set {k : κ} {v' : ε} : ∀ (m : List (κ × ε)) (i : Nat) {j : Nat} {v : ε}, midx m k i = some (j, v) → midx (m.set (j - i) (k, v')) k i = some (j, v')
  | [], i, j, v, h => by simp [midx] at h
  | p :: r, i, j, v, h => by
    have H := h
    unfold midx at h
    split at h
    · rename_i hp
      simp only [Option.some.injEq, Prod.mk.injEq] at h
      obtain ⟨rfl, rfl⟩ := h
      simp [midx]
    · rename_i hp
      have h1 := midx_set (v' := v') r (i + 1) h
      obtain ⟨h2, _⟩ := midx_lt r (i + 1) h
      obtain ⟨d, hd⟩ : ∃ d, j - i = d + 1 := ⟨j - (i + 1), by omega⟩
      have hd' : j - (i + 1) = d := by omega
      rw [hd, List.set_cons_succ]
      rw [hd'] at h1
      unfold midx
      rw [if_neg hp, h1]
theorem midx_snoc {k : κ} {v : ε} : ∀ (m : List (κ × ε)) (i : Nat), midx m k i = none → midx (m ++ [(k, v)]) k i = some (i + m.length, v)
  | [], i, h => by simp [midx]
  | p :: r, i, h => by
    unfold midx at h
    split at h
    · cases h
    · rename_i hp
      have h1 := midx_snoc (v := v) r (i + 1) h
      simp only [List.cons_append]
      unfold midx
      rw [if_neg hp, h1]
      simp
      omega
theorem mput_mput (m : List (κ × ε)) (k : κ) (v v' : ε) : mput (mput m k v) k v' = mput m k v' := by
  induction m with
  | nil => simp [mput]
  | cons p r ih =>
    by_cases h : p.1 = k
    · have e1 : ∀ v, mput (p :: r) k v = (k, v) :: r := fun v => by rw [mput, if_pos h]
      rw [e1, e1, mput, if_pos rfl]
    · have e1 : ∀ v, mput (p :: r) k v = p :: mput r k v := fun v => by rw [mput, if_neg h]
      rw [e1, e1, mput, if_neg h, ih]
theorem mput_length_le (m : List (κ × ε)) (k : κ) (v : ε) : (mput m k v).length ≤ m.length + 1 := by
  induction m with
  | nil => simp [mput]
  | cons p r ih =>
    unfold mput
    split
    · simp
    · simp; omega
theorem mput_nodup (m : List (κ × ε)) (k : κ) (v : ε) (h : (m.map Prod.fst).Nodup) : ((mput m k v).map Prod.fst).Nodup := by
  induction m with
  | nil => simp [mput]
  | cons p r ih =>
    simp only [List.map_cons, List.nodup_cons] at h
    unfold mput
    split
    · rename_i hp
      simp only [List.map_cons, List.nodup_cons]
      rw [hp] at h
      exact h
    · rename_i hp
      simp only [List.map_cons, List.nodup_cons]
      refine ⟨fun hm => ?_, ih h.2⟩
      rcases (mput_keys r k p.1 v).1 hm with e | e
      · exact hp e
      · exact h.1 e
theorem mdel_keys (m : List (κ × ε)) (k k' : κ) (h : (m.map Prod.fst).Nodup) : k' ∈ (mdel m k).map Prod.fst ↔ k' ≠ k ∧ k' ∈ m.map Prod.fst := by
  induction m with
  | nil => simp [mdel]
  | cons p r ih =>
    simp only [List.map_cons, List.nodup_cons] at h
    unfold mdel
    split
    · rename_i hp
      subst hp
      simp only [List.map_cons, List.mem_cons]
      constructor
      · intro hm
        exact ⟨fun e => h.1 (e ▸ hm), .inr hm⟩
      · rintro ⟨hne, e | hm⟩
        · exact absurd e hne
        · exact hm
    · rename_i hp
      simp only [List.map_cons, List.mem_cons, ih h.2]
      constructor
      · rintro (e | ⟨hne, hm⟩)
        · exact ⟨fun e2 => hp (e ▸ e2), .inl e⟩
        · exact ⟨hne, .inr hm⟩
      · rintro ⟨hne, e | hm⟩
        · exact .inl e
        · exact .inr ⟨hne, hm⟩
theorem mdel_nodup (m : List (κ × ε)) (k : κ) (h : (m.map Prod.fst).Nodup) : ((mdel m k).map Prod.fst).Nodup := by
  induction m with
  | nil => simp [mdel]
  | cons p r ih =>
    have h' := h
    simp only [List.map_cons, List.nodup_cons] at h
    unfold mdel
    split
    · exact h.2
    · rename_i hp
      simp only [List.map_cons, List.nodup_cons]
      exact ⟨fun hm => h.1 ((mdel_keys r k p.1 h.2).1 hm).2, ih h.2⟩
end

/-! ### The machine's operations -/
/-- Block b is a map that holds m, and the entry at k bears the stamp. -/
def EntryIs {κ ε : Type} [DecidableEq κ] (encK : κ → Value) (encE : ε → Value) (w : World) (b : Nat) (m : List (κ × ε)) (k : κ) (stamp : Nat) : Prop :=
  ∃ es clock, w.heap[b]? = some (.map es clock) ∧ es.toList.map (fun x => (x.key, x.val)) = m.map (fun p => (encK p.1, encE p.2)) ∧ (∀ x ∈ es.toList, x.born < clock) ∧ (es.toList.map (·.born)).Nodup ∧
    ∃ j v0, midx m k 0 = some (j, v0) ∧ (es[j]?).map (·.born) = some stamp
section
variable {κ ε : Type} [DecidableEq κ] {encK : κ → Value} {encE : ε → Value} {P : Program} {w w1 : World} {b : Nat} {m : List (κ × ε)} {t kt et : TypeId}
theorem EntryIs.map {k : κ} {stamp : Nat} (h : EntryIs encK encE w b m k stamp) : MapIs encK encE w b m := by
  obtain ⟨es, clock, h1, h2, h3, h4, _⟩ := h
  exact ⟨es, clock, h1, h2, h3, h4⟩
theorem EntryIs.keep {k : κ} {stamp : Nat} (h : EntryIs encK encE w b m k stamp) (hk : w1.heap[b]? = w.heap[b]?) : EntryIs encK encE w1 b m k stamp := by
  obtain ⟨es, clock, hb, r⟩ := h
  exact ⟨es, clock, hk.trans hb, r⟩
theorem EntryIs.grown {k : κ} {stamp : Nat} (h : EntryIs encK encE w b m k stamp) {row : Option Nat} (hg : w.grownBy w1 row) (hne : some b ≠ row) : EntryIs encK encE w1 b m k stamp := h.keep (hg.block b h.map.lt hne)
theorem map_getObj {es : Array MapEntry} {clock : Nat} (hb : w.heap[b]? = some (.map es clock)) : (getObj b).run P w = .ok (.map es clock) w := by simp [getObj, Sem.run, hb]
theorem map_setObj {es : Array MapEntry} {clock : Nat} (hb : w.heap[b]? = some (.map es clock)) (o : Obj) : (setObj b o).run P w = .ok () { w with heap := w.heap.setIfInBounds b o } := by simp [setObj, Sem.run, hb]
theorem pairs_len {es : Array MapEntry} {m : List (κ × ε)} (hm : es.toList.map (fun x => (x.key, x.val)) = m.map (fun p => (encK p.1, encE p.2))) : es.size = m.length := by
  have := congrArg List.length hm
  simpa using this
theorem pairs_key {es : Array MapEntry} {m : List (κ × ε)} (hm : es.toList.map (fun x => (x.key, x.val)) = m.map (fun p => (encK p.1, encE p.2))) {j : Nat} {k : κ} {v : ε} (hj : m[j]? = some (k, v)) :
    ∃ h : j < es.size, es[j].key = encK k ∧ es[j].val = encE v := by
  have hl := pairs_len hm
  have hjm : j < m.length := (List.getElem?_eq_some_iff.1 hj).1
  have hje : j < es.size := by omega
  refine ⟨hje, ?_⟩
  have h1 : (es.toList.map (fun x => (x.key, x.val)))[j]? = (m.map (fun p => (encK p.1, encE p.2)))[j]? := by rw [hm]
  rw [List.getElem?_map, List.getElem?_map, List.getElem?_eq_getElem (by simpa using hje), hj] at h1
  simp only [Option.map_some, Option.some.injEq, Prod.mk.injEq] at h1
  rw [Array.getElem_toList] at h1
  exact h1
omit [DecidableEq κ] in
theorem eraseIdx_map' {α β : Type} (f : α → β) : ∀ (l : List α) (i : Nat), (l.map f).eraseIdx i = (l.eraseIdx i).map f
  | [], i => by simp
  | a :: r, 0 => by simp
  | a :: r, i + 1 => by simp [eraseIdx_map' f r i]
theorem run_len_map (ht : P.underlying t = some (.map kt et)) (h : MapIs encK encE w b m) (ty : TypeId) : (Builtin.len_ #[t] ty #[.map (some b)]).run P w = .ok (.int .i64 m.length) w := by
  obtain ⟨es, clock, hb, hm, _⟩ := h
  have := pairs_len hm
  simp [Builtin.len_, run_underlying ht, map_getObj hb, goInt, this]
theorem run_len_nomap (ht : P.underlying t = some (.map kt et)) (ty : TypeId) : (Builtin.len_ #[t] ty #[.map none]).run P w = .ok (.int .i64 0) w := by
  simp [Builtin.len_, run_underlying ht, goInt]
theorem run_delete_map (K : KeyKind P kt encK) (hc : ∀ (k : κ) (w : World), (Instr.checkKey true 10000 kt (encK k)).run P w = .ok () w) (ht : P.underlying t = some (.map kt et)) (h : MapIs encK encE w b m) (k : κ) (ty : TypeId) :
    ∃ w1, (Builtin.delete_ #[t, kt] ty #[.map (some b), encK k]).run P w = .ok (.tuple #[]) w1 ∧ MapIs encK encE w1 b (mdel m k) ∧ w.grownBy w1 (some b) ∧ w1.heap.size = w.heap.size := by
  have H := h
  obtain ⟨es, clock, hb, hm, hborn, hnd⟩ := h
  have hf := K.find encE k es.toList m w hm
  have hck := K.check es.isEmpty k w
  have hlen := pairs_len hm
  unfold Builtin.delete_
  simp only [List.getElem?_toArray, List.getElem?_cons_zero, List.getElem?_cons_succ, Sem.run_bind, run_underlying ht, Result.andThen_ok, map_getObj hb, hck, hf]
  cases hi : midx m k 0 with
  | none =>
    simp only [Option.map_none, map_setObj hb, Result.andThen_ok]
    obtain ⟨h1, h2⟩ := H.set es clock (m' := mdel m k) (by rw [mdel_none m 0 hi]; exact hm) hborn hnd
    exact ⟨_, by rw [Sem.run_bind, map_setObj hb, Result.andThen_ok, Sem.run_pure], h1, h2, by simp⟩
  | some q =>
    obtain ⟨j, v0⟩ := q
    obtain ⟨_, hjl, _⟩ := midx_lt m 0 hi
    simp only [Nat.sub_zero] at hjl
    have hje : j < es.size := by omega
    have hes : (es.eraseIdxIfInBounds j).toList = es.toList.eraseIdx j := by
      unfold Array.eraseIdxIfInBounds
      rw [dif_pos hje]
      simp
    simp only [Option.map_some, map_setObj hb, Result.andThen_ok]
    obtain ⟨h1, h2⟩ := H.set (es.eraseIdxIfInBounds j) clock (m' := mdel m k) (by rw [hes, mdel_some m 0 hi, Nat.sub_zero]; rw [← eraseIdx_map', ← eraseIdx_map', hm]) (fun x hx => hborn x (by rw [hes] at hx; exact (List.eraseIdx_sublist _ _).subset hx))
      (by rw [hes]; exact hnd.sublist ((List.eraseIdx_sublist _ _).map _))
    exact ⟨_, by rw [Sem.run_bind, map_setObj hb, Result.andThen_ok, Sem.run_pure], h1, h2, by simp⟩
theorem run_mapEntry_map (K : KeyKind P kt encK) (ht : P.underlying t = some (.map kt et)) (h : MapIs encK encE w b m) (z : ε) (hz : ∀ w, (zeroValue et).run P w = .ok (encE z) w) (k : κ) :
    ∃ w1 stamp v0, (Instr.mapEntry t (.map (some b)) (encK k)).run P w = .ok (.tuple #[v0, .int .i64 (stamp : Nat)]) w1 ∧ EntryIs encK encE w1 b (mput m k ((mget m k).getD z)) k stamp ∧ w.grownBy w1 (some b) ∧ w1.heap.size = w.heap.size := by
  have H := h
  obtain ⟨es, clock, hb, hm, hborn, hnd⟩ := h
  have hf := K.find encE k es.toList m w hm
  have hck := K.check false k w
  have hlen := pairs_len hm
  unfold Instr.mapEntry
  simp only [Sem.run_bind, run_underlying ht, Result.andThen_ok, map_getObj hb, hck, hf]
  cases hi : midx m k 0 with
  | none =>
    have hg : mget m k = none := by unfold mget; rw [hi]; rfl
    simp only [Option.map_none, hz, map_setObj hb, Result.andThen_ok, Sem.run_bind, Sem.run_pure]
    obtain ⟨⟨es', clock', a1, a2, a3, a4⟩, h2⟩ := H.set (es.push { key := encK k, val := encE z, born := clock }) (clock + 1) (m' := mput m k ((mget m k).getD z)) (by rw [mput_none m 0 hi, hg]; simp [hm])
      (by
        intro x hx
        simp only [Array.toList_push, List.mem_append, List.mem_singleton] at hx
        rcases hx with hx | rfl
        · have := hborn x hx
          omega
        · simp)
      (by
        simp only [Array.toList_push, List.map_append, List.map_cons, List.map_nil]
        rw [List.nodup_append]
        refine ⟨hnd, by simp, ?_⟩
        intro a ha c hc2
        simp only [List.mem_singleton] at hc2
        obtain ⟨x, hx, rfl⟩ := List.mem_map.1 ha
        have := hborn x hx
        omega)
    refine ⟨_, clock, encE z, rfl, ⟨es', clock', a1, a2, a3, a4, m.length, z, ?_, ?_⟩, h2, by simp⟩
    · rw [mput_none m 0 hi, hg]
      have := midx_snoc (v := z) m 0 hi
      simpa using this
    · have hlt := H.lt
      rw [Array.getElem?_setIfInBounds] at a1
      simp [hlt] at a1
      obtain ⟨rfl, _⟩ := a1
      rw [← hlen]
      simp
  | some q =>
    obtain ⟨j, v0⟩ := q
    have hget := midx_get m 0 hi
    simp only [Nat.sub_zero] at hget
    obtain ⟨hje, hkey, hval⟩ := pairs_key hm hget
    have hg : mget m k = some v0 := by unfold mget; rw [hi]; rfl
    have hset := mput_some (v' := v0) m 0 hi
    simp only [Nat.sub_zero] at hset
    have hks : (Instr.keyThatStays (((es[j]?).map (·.key)).getD (encK k)) (encK k)).run P w = .ok (encK k) w := by
      rw [Array.getElem?_eq_getElem hje]
      simp only [Option.map_some, Option.getD_some, hkey]
      unfold Instr.keyThatStays
      rw [if_pos (K.same k)]
      rfl
    have hsame : (es.modify j fun e => { e with key := encK k }) = es := by
      apply Array.ext_getElem?
      intro i
      rw [Array.getElem?_modify]
      split
      · rename_i hij
        subst hij
        rw [Array.getElem?_eq_getElem hje, Option.map_some, ← hkey]
      · rfl
    have hmset : m.set j (k, v0) = m := by
      apply List.ext_getElem?
      intro i
      rw [List.getElem?_set]
      split
      · rename_i hij
        subst hij
        rw [hget, if_pos (List.getElem?_eq_some_iff.1 hget).1]
      · rfl
    simp only [Option.map_some, Sem.run_bind, hks, Result.andThen_ok, map_setObj hb, Sem.run_pure, hsame]
    obtain ⟨⟨es', clock', a1, a2, a3, a4⟩, h2⟩ := H.set es clock (m' := mput m k ((mget m k).getD z)) (by rw [hg, Option.getD_some, hset, hmset]; exact hm) hborn hnd
    refine ⟨_, (es[j]).born, _, by rw [Array.getElem?_eq_getElem hje]; rfl, ⟨es', clock', a1, a2, a3, a4, j, v0, ?_, ?_⟩, h2, by simp⟩
    · rw [hg, Option.getD_some, hset, hmset]
      exact hi
    · have hlt := H.lt
      rw [Array.getElem?_setIfInBounds] at a1
      simp [hlt] at a1
      obtain ⟨rfl, _⟩ := a1
      rw [Array.getElem?_eq_getElem hje]
      rfl
theorem run_entryStore_map {k : κ} {stamp : Nat} (h : EntryIs encK encE w b m k stamp) (v : ε) : ∃ w1, (Instr.entryStore t (.map (some b)) (.int .i64 (stamp : Nat)) (encE v)).run P w = .ok () w1 ∧ MapIs encK encE w1 b (mput m k v) ∧ w.grownBy w1 (some b) ∧ w1.heap.size = w.heap.size := by
  have H := h.map
  obtain ⟨es, clock, hb, hm, hborn, hnd, j, v0, hi, hst⟩ := h
  have hget := midx_get m 0 hi
  simp only [Nat.sub_zero] at hget
  obtain ⟨hje, hkey, hval⟩ := pairs_key hm hget
  have hset := mput_some (v' := v) m 0 hi
  simp only [Nat.sub_zero] at hset
  rw [Array.getElem?_eq_getElem hje, Option.map_some, Option.some.injEq] at hst
  have hfind : es.findIdx? (fun e => (e.born : Int) == (stamp : Int)) = some j := by
    rw [Array.findIdx?_eq_some_iff_getElem]
    refine ⟨hje, by simp [hst], fun i hij => ?_⟩
    have hie : i < es.size := by omega
    have : es[i].born ≠ stamp := by
      intro e
      have h1 : (es.toList.map (·.born))[i]? = (es.toList.map (·.born))[j]? := by
        rw [List.getElem?_map, List.getElem?_map, List.getElem?_eq_getElem (by simpa using hie), List.getElem?_eq_getElem (by simpa using hje)]
        simp [e, hst]
      have := (List.getElem?_inj (by simpa using hie) hnd).1 h1
      omega
    simp
    exact_mod_cast this
  unfold Instr.entryStore
  have hai : (asInt (.int .i64 (stamp : Nat))).run P w = .ok (stamp : Int) w := rfl
  simp only [Sem.run_bind, Sem.run_pure, map_getObj hb, Result.andThen_ok, hai, hfind, map_setObj hb]
  have hmod : (es.modify j fun e => { e with val := encE v }).toList = es.toList.modify j fun e => { e with val := encE v } := by simp
  obtain ⟨h1, h2⟩ := H.set (es.modify j fun e => { e with val := encE v }) clock (m' := mput m k v)
    (by
      rw [hset, hmod, List.map_set, ← hm]
      apply List.ext_getElem?
      intro i
      rw [List.getElem?_map, List.getElem?_modify, List.getElem?_set, List.getElem?_map]
      by_cases hij : j = i
      · subst hij
        simp [List.getElem?_eq_getElem (show j < es.toList.length by simpa using hje), hje, hkey]
      · simp [hij])
    (by
      intro x hx
      rw [hmod] at hx
      obtain ⟨i, hi', rfl⟩ := List.mem_iff_getElem.1 hx
      rw [List.getElem_modify]
      have hil : i < es.toList.length := by simpa using hi'
      have hq := hborn _ (List.getElem_mem hil)
      split <;> exact hq)
    (by
      rw [hmod]
      have : (es.toList.modify j fun e => { e with val := encE v }).map (·.born) = es.toList.map (·.born) := by
        apply List.ext_getElem?
        intro i
        rw [List.getElem?_map, List.getElem?_modify, List.getElem?_map]
        by_cases hij : j = i
        · subst hij
          cases h0 : es.toList[j]? <;> simp
        · simp [hij]
      rw [this]
      exact hnd)
  exact ⟨_, rfl, h1, h2, by simp⟩
end

/-! ### A loop over a map -/
/-- Block r is a loop under way over the map in block b, which holds m; is: the places that the loop has met, in the order in which it met them. -/
def RangeIs {κ ε : Type} (encK : κ → Value) (encE : ε → Value) (w : World) (b r : Nat) (m : List (κ × ε)) (is : List Nat) : Prop :=
  ∃ es clock since seen c0, w.heap[b]? = some (.map es clock) ∧ es.toList.map (fun x => (x.key, x.val)) = m.map (fun p => (encK p.1, encE p.2)) ∧ (∀ x ∈ es.toList, x.born < clock) ∧ (es.toList.map (·.born)).Nodup ∧
    w.heap[r]? = some (.mapIter (some b) since seen c0) ∧ (∀ x ∈ es.toList, x.born < since) ∧ since ≤ c0 ∧ since ≤ clock ∧ seen.toList.map some = is.map (fun i => (es[i]?).map (·.born)) ∧ (∀ i ∈ is, i < m.length)
section
variable {κ ε : Type} [DecidableEq κ] {encK : κ → Value} {encE : ε → Value} {P : Program} {w w1 : World} {b r : Nat} {m : List (κ × ε)} {is : List Nat} {t kt et : TypeId}
theorem RangeIs.map (h : RangeIs encK encE w b r m is) : MapIs encK encE w b m := by
  obtain ⟨es, clock, _, _, _, h1, h2, h3, h4, _⟩ := h
  exact ⟨es, clock, h1, h2, h3, h4⟩
theorem RangeIs.keep (h : RangeIs encK encE w b r m is) (hb : w1.heap[b]? = w.heap[b]?) (hr : w1.heap[r]? = w.heap[r]?) : RangeIs encK encE w1 b r m is := by
  obtain ⟨es, clock, since, seen, c0, h1, h2, h3, h4, h5, h6⟩ := h
  exact ⟨es, clock, since, seen, c0, hb.trans h1, h2, h3, h4, hr.trans h5, h6⟩
theorem RangeIs.lt (h : RangeIs encK encE w b r m is) : r < w.heap.size := by
  obtain ⟨es, clock, since, seen, c0, _, _, _, _, h5, _⟩ := h
  exact (Array.getElem?_eq_some_iff.1 h5).1
theorem RangeIs.below (h : RangeIs encK encE w b r m is) (hb : Below w.heap.size w w1) : RangeIs encK encE w1 b r m is := h.keep (hb.block b h.map.lt) (hb.block r h.lt)
theorem RangeIs.drew (h : RangeIs encK encE w b r m is) : RangeIs encK encE w.drew b r m is := h
theorem RangeIs.grown (h : RangeIs encK encE w b r m is) {row : Option Nat} (hg : w.grownBy w1 row) (hb : some b ≠ row) (hr : some r ≠ row) : RangeIs encK encE w1 b r m is := h.keep (hg.block b h.map.lt hb) (hg.block r h.lt hr)
theorem run_range_map (ht : P.underlying t = some (.map kt et)) (h : MapIs encK encE w b m) :
    ∃ w', (Instr.range t (.map (some b))).run P w = .ok (.pointer (some ⟨w.heap.size, 0, none⟩)) w' ∧ RangeIs encK encE w' b w.heap.size m [] ∧ Below w.heap.size w w' ∧ w'.heap.size = w.heap.size + 1 := by
  have hlt := h.lt
  obtain ⟨es, clock, hb, hm, hborn, hnd⟩ := h
  refine ⟨w.alloc (.mapIter (some b) clock #[] clock), ?_, ⟨es, clock, clock, #[], clock, ?_, hm, hborn, hnd, heap_alloc_new w _, hborn, Nat.le_refl _, Nat.le_refl _, rfl, by simp⟩, (Below.refl _ _).alloc (Nat.le_refl _) _, Array.size_push ..⟩
  · unfold Instr.range
    simp only [Sem.run_bind, run_underlying ht, Result.andThen_ok, map_getObj hb, Sem.run_pure]
    rfl
  · exact (((Below.refl w.heap.size w).alloc (Nat.le_refl _) (.mapIter (some b) clock #[] clock)).block b hlt).trans hb
theorem grown_setBlock (w w1 : World) (hw : w1 = w ∨ w1 = w.drew) (r : Nat) (o : Obj) : w.grownBy (setBlock w1 r o) (some r) ∧ (setBlock w1 r o).heap.size = w.heap.size := by
  have hh : (setBlock w1 r o).heap = w.heap.setIfInBounds r o := by rcases hw with rfl | rfl <;> rfl
  have ho : (setBlock w1 r o).os = w.os ∧ (setBlock w1 r o).tape = w.tape ∧ (setBlock w1 r o).output = w.output := by rcases hw with rfl | rfl <;> exact ⟨rfl, rfl, rfl⟩
  refine ⟨⟨ho.1, ho.2.1, ho.2.2, by rw [hh]; simp, fun k hk hne => ?_⟩, by rw [hh]; simp⟩
  have : r ≠ k := fun e => hne (by rw [e])
  rw [hh]
  simp [Array.getElem?_setIfInBounds, this]
theorem run_next_map (h : RangeIs encK encE w b r m is) (ty : TypeId) :
    ((∀ i, i < m.length → i ∈ is) ∧ (Instr.next (.pointer (some ⟨r, 0, none⟩)) false ty).run P w = .ok (.tuple #[.bool false]) w) ∨
    ∃ (i : Nat) (k : κ) (v : ε) (w' : World), m[i]? = some (k, v) ∧ i ∉ is ∧ (Instr.next (.pointer (some ⟨r, 0, none⟩)) false ty).run P w = .ok (.tuple #[.bool true, encK k, encE v]) w' ∧
      RangeIs encK encE w' b r m (is ++ [i]) ∧ w.grownBy w' (some r) ∧ w'.heap.size = w.heap.size ∧ (Instr.entry (.pointer (some ⟨r, 0, none⟩))).run P w' = .ok (.tuple #[encK k, encE v]) w' := by
  obtain ⟨es, clock, since, seen, c0, hb, hm, hborn, hnd, hr, hold, hsc, hsk, hseen, his⟩ := h
  have hlen := pairs_len hm
  have hbr : b ≠ r := by
    intro e
    rw [e, hr] at hb
    cases hb
  have hin : ∀ i (hi : i < es.size), es[i].born ∈ seen.toList ↔ i ∈ is := by
    intro i hi
    constructor
    · intro hx
      have h1 : some es[i].born ∈ seen.toList.map some := List.mem_map.2 ⟨_, hx, rfl⟩
      rw [hseen] at h1
      obtain ⟨j, hj, hje⟩ := List.mem_map.1 h1
      have hjl : j < es.size := by have := his j hj; omega
      rw [Array.getElem?_eq_getElem hjl, Option.map_some, Option.some.injEq] at hje
      have h2 : (es.toList.map (·.born))[j]? = (es.toList.map (·.born))[i]? := by
        rw [List.getElem?_map, List.getElem?_map, List.getElem?_eq_getElem (by simpa using hjl), List.getElem?_eq_getElem (by simpa using hi)]
        simp [hje]
      have := (List.getElem?_inj (by simpa using hjl) hnd).1 h2
      rwa [← this]
    · intro hx
      have h1 : (es[i]?).map (·.born) ∈ is.map (fun i => (es[i]?).map (·.born)) := List.mem_map.2 ⟨i, hx, rfl⟩
      rw [← hseen, Array.getElem?_eq_getElem hi, Option.map_some] at h1
      obtain ⟨y, hy, hye⟩ := List.mem_map.1 h1
      rwa [← Option.some.inj hye]
  rcases run_next_at (P := P) w ty r b since c0 seen es clock hr hb hold hsc with ⟨h0, hrun⟩ | ⟨e, he, w1, hw1, hrun⟩
  · left
    refine ⟨fun i hi => ?_, hrun⟩
    have hie : i < es.size := by omega
    apply Classical.byContradiction
    intro hni
    have hne : es[i].born ∉ seen.toList := fun hx => hni ((hin i hie).1 hx)
    have hmem : es[i] ∈ leftOf es seen := by
      unfold leftOf
      rw [Array.mem_filter]
      refine ⟨Array.getElem_mem _, ?_⟩
      simpa [← Array.mem_toList_iff] using hne
    have := Array.size_pos_of_mem hmem
    omega
  · right
    have he' : e ∈ es ∧ e.born ∉ seen := by
      rw [Array.mem_toList_iff] at he
      unfold leftOf at he
      rw [Array.mem_filter] at he
      exact ⟨he.1, by simpa using he.2⟩
    obtain ⟨i, hi, rfl⟩ := Array.mem_iff_getElem.1 he'.1
    have him : i < m.length := by omega
    obtain ⟨_, hk, hv⟩ := pairs_key (k := m[i].1) (v := m[i].2) hm (List.getElem?_eq_getElem him)
    obtain ⟨g1, g2⟩ := grown_setBlock w w1 hw1 r (.mapIter (some b) since (seen.push es[i].born) clock)
    have hb' : (setBlock w1 r (.mapIter (some b) since (seen.push es[i].born) clock)).heap[b]? = some (.map es clock) := (g1.block b (Array.getElem?_eq_some_iff.1 hb).1 (fun e => hbr (Option.some.inj e))).trans hb
    have hr' : (setBlock w1 r (.mapIter (some b) since (seen.push es[i].born) clock)).heap[r]? = some (.mapIter (some b) since (seen.push es[i].born) clock) := by
      have hlt : r < w1.heap.size := by
        have := (Array.getElem?_eq_some_iff.1 hr).1
        rcases hw1 with rfl | rfl <;> exact this
      simp [setBlock, Array.getElem?_setIfInBounds, hlt]
    refine ⟨i, m[i].1, m[i].2, _, List.getElem?_eq_getElem him, fun hx => he'.2 (by simpa [← Array.mem_toList_iff] using (hin i hi).2 hx), by rw [hrun, hk, hv], ⟨es, clock, since, seen.push es[i].born, clock, hb', hm, hborn, hnd, hr', hold, hsk, hsk, ?_, ?_⟩, g1, g2, ?_⟩
    · simp only [Array.toList_push, List.map_append, List.map_cons, List.map_nil, hseen, Array.getElem?_eq_getElem hi, Option.map_some]
    · intro j hj
      rcases List.mem_append.1 hj with hj | hj
      · exact his j hj
      · rw [List.mem_singleton] at hj
        omega
    · have := run_entry_at (P := P) _ r b since seen es clock es[i] hr' hb' (by simp) hnd
      rw [this, hk, hv]
end
end Go.Proofs.Ytcfeehaoeaoegaa.Print

namespace Go.Proofs.Ytcfeehaoeaoegaa.Print
open Go.RowKit Go.Proofs.YtcfeehaoeaoegaaW.PrintWords Go.Proofs.YtcfeehaoeaoegaaW.PrintLast Go.Proofs.YtcfeehaoeaoegaaW.PrintMore
set_option linter.unusedVariables false
set_option linter.unusedSimpArgs false
set_option linter.unusedSectionVars false

section
variable {P : Program} {w w1 : World} {ops : Array Oper} {rest : List Oper} {o : Oper} {a : Act} {Q : Exit → Act → World → Prop}
theorem wp_value_ (hg : o.guard = none) {v : Value} (hrun : (execOp a.eval o).run P w = .ok (.value v) w1) (hK : wpList P ops Q rest (a.put o.dst v) w1) : wpList P ops Q (o :: rest) a w := by
  refine wpList_plain hg fun K' hK' => ?_
  unfold Oper.wp
  rw [hrun]
  exact hK' _ _ hK
theorem wp_skip_ (hg : o.guard = none) (hd : o.dst = none) (hrun : (execOp a.eval o).run P w = .ok .skip w1) (hK : wpList P ops Q rest a w1) : wpList P ops Q (o :: rest) a w := by
  refine wpList_plain hg fun K' hK' => ?_
  unfold Oper.wp
  rw [hrun]
  refine hK' _ _ ?_
  rw [hd]
  exact hK
end
section
variable {κ ε : Type} [DecidableEq κ] {encK : κ → Value} {encE : ε → Value} {P : Program} {w w1 : World} {b r : Nat} {m : List (κ × ε)} {is : List Nat} {t kt et : TypeId} {ops : Array Oper} {rest : List Oper} {o : Oper} {a : Act} {Q : Exit → Act → World → Prop}
theorem exec_len_map (ht : P.underlying t = some (.map kt et)) (mo : Operand) (hop : o.op = .call { callee := .builtin .len, args := #[mo], argTypes := #[t] }) (h : MapIs encK encE w b m) (hm : a.eval mo = .map (some b)) :
    (execOp a.eval o).run P w = .ok (.value (.int .i64 m.length)) w := by
  have hrun := run_len_map ht h o.type
  unfold execOp
  simp only [hop, resolve, invoke, builtin, Sem.run_bind, Sem.run_pure, Result.andThen_ok, List.map_toArray, List.map_cons, List.map_nil, hm, hrun]
theorem exec_delete_map (K : KeyKind P kt encK) (hc : ∀ (k : κ) (w : World), (Instr.checkKey true 10000 kt (encK k)).run P w = .ok () w) (ht : P.underlying t = some (.map kt et)) (mo x : Operand)
    (hop : o.op = .call { callee := .builtin .delete, args := #[mo, x], argTypes := #[t, kt] }) (h : MapIs encK encE w b m) (k : κ) (hm : a.eval mo = .map (some b)) (hx : a.eval x = encK k) :
    ∃ w1, (execOp a.eval o).run P w = .ok (.value (.tuple #[])) w1 ∧ MapIs encK encE w1 b (mdel m k) ∧ w.grownBy w1 (some b) ∧ w1.heap.size = w.heap.size := by
  obtain ⟨w1, hrun, h1⟩ := run_delete_map K hc ht h k o.type
  refine ⟨w1, ?_, h1⟩
  unfold execOp
  simp only [hop, resolve, invoke, builtin, Sem.run_bind, Sem.run_pure, Result.andThen_ok, List.map_toArray, List.map_cons, List.map_nil, hm, hx, hrun]
theorem exec_range_map (ht : P.underlying t = some (.map kt et)) (mo : Operand) (hop : o.op = .range t mo) (h : MapIs encK encE w b m) (hm : a.eval mo = .map (some b)) :
    ∃ w', (execOp a.eval o).run P w = .ok (.value (.pointer (some ⟨w.heap.size, 0, none⟩))) w' ∧ RangeIs encK encE w' b w.heap.size m [] ∧ Below w.heap.size w w' ∧ w'.heap.size = w.heap.size + 1 := by
  obtain ⟨w1, hrun, h1⟩ := run_range_map ht h
  refine ⟨w1, ?_, h1⟩
  unfold execOp
  simp only [hop, Sem.run_bind, Sem.run_pure, Result.andThen_ok, hm, hrun]
theorem exec_next_map (h : RangeIs encK encE w b r m is) (ro : Operand) (hop : o.op = .next ro false) (hr : a.eval ro = .pointer (some ⟨r, 0, none⟩)) :
    ((∀ i, i < m.length → i ∈ is) ∧ (execOp a.eval o).run P w = .ok (.value (.tuple #[.bool false])) w) ∨
    ∃ (i : Nat) (k : κ) (v : ε) (w' : World), m[i]? = some (k, v) ∧ i ∉ is ∧ (execOp a.eval o).run P w = .ok (.value (.tuple #[.bool true, encK k, encE v])) w' ∧
      RangeIs encK encE w' b r m (is ++ [i]) ∧ w.grownBy w' (some r) ∧ w'.heap.size = w.heap.size ∧ (Instr.entry (.pointer (some ⟨r, 0, none⟩))).run P w' = .ok (.tuple #[encK k, encE v]) w' := by
  rcases run_next_map (P := P) h o.type with ⟨h1, h2⟩ | ⟨i, k, v, w', h1, h2, h3, h4⟩
  · refine .inl ⟨h1, ?_⟩
    unfold execOp
    simp only [hop, Sem.run_bind, Sem.run_pure, Result.andThen_ok, hr, h2]
  · refine .inr ⟨i, k, v, w', h1, h2, ?_, h4⟩
    unfold execOp
    simp only [hop, Sem.run_bind, Sem.run_pure, Result.andThen_ok, hr, h3]
theorem exec_entry_map {v : Value} (ro : Operand) (hop : o.op = .entry ro) (hr : a.eval ro = .pointer (some ⟨r, 0, none⟩)) (h : (Instr.entry (.pointer (some ⟨r, 0, none⟩))).run P w = .ok v w) :
    (execOp a.eval o).run P w = .ok (.value v) w := by
  unfold execOp
  simp only [hop, Sem.run_bind, Sem.run_pure, Result.andThen_ok, hr, h]
theorem exec_mapEntry_map (K : KeyKind P kt encK) (ht : P.underlying t = some (.map kt et)) (mo x : Operand) (hop : o.op = .mapEntry t mo x) (h : MapIs encK encE w b m) (z : ε) (hz : ∀ w, (zeroValue et).run P w = .ok (encE z) w) (k : κ)
    (hm : a.eval mo = .map (some b)) (hx : a.eval x = encK k) :
    ∃ w1 stamp v0, (execOp a.eval o).run P w = .ok (.value (.tuple #[v0, .int .i64 (stamp : Nat)])) w1 ∧ EntryIs encK encE w1 b (mput m k ((mget m k).getD z)) k stamp ∧ w.grownBy w1 (some b) ∧ w1.heap.size = w.heap.size := by
  obtain ⟨w1, stamp, v0, hrun, h1⟩ := run_mapEntry_map K ht h z hz k
  refine ⟨w1, stamp, v0, ?_, h1⟩
  unfold execOp
  simp only [hop, Sem.run_bind, Sem.run_pure, Result.andThen_ok, hm, hx, hrun]
theorem exec_entryStore_map (mo x vo : Operand) (hop : o.op = .entryStore t mo x vo) {k : κ} {stamp : Nat} (h : EntryIs encK encE w b m k stamp) (v : ε) (hm : a.eval mo = .map (some b)) (hx : a.eval x = .int .i64 (stamp : Nat)) (hv : a.eval vo = encE v) :
    ∃ w1, (execOp a.eval o).run P w = .ok .skip w1 ∧ MapIs encK encE w1 b (mput m k v) ∧ w.grownBy w1 (some b) ∧ w1.heap.size = w.heap.size := by
  obtain ⟨w1, hrun, h1⟩ := run_entryStore_map (P := P) (t := t) h v
  refine ⟨w1, ?_, h1⟩
  unfold execOp
  simp only [hop, Sem.run_bind, Sem.run_pure, Result.andThen_ok, hm, hx, hv, hrun]
end
section
variable {κ ε : Type} [DecidableEq κ] {encK : κ → Value} {encE : ε → Value} {P : Program} {w w1 : World} {b r : Nat} {m : List (κ × ε)} {is : List Nat} {t kt et : TypeId} {ops : Array Oper} {rest : List Oper} {o : Oper} {a : Act} {Q : Exit → Act → World → Prop}
theorem wp_len_map (ht : P.underlying t = some (.map kt et)) (hg : o.guard = none) (mo : Operand) (hop : o.op = .call { callee := .builtin .len, args := #[mo], argTypes := #[t] }) (h : MapIs encK encE w b m) (hm : a.eval mo = .map (some b))
    (hK : wpList P ops Q rest (a.put o.dst (.int .i64 m.length)) w) : wpList P ops Q (o :: rest) a w := wp_value_ hg (exec_len_map ht mo hop h hm) hK
theorem wp_delete_map (K : KeyKind P kt encK) (hc : ∀ (k : κ) (w : World), (Instr.checkKey true 10000 kt (encK k)).run P w = .ok () w) (ht : P.underlying t = some (.map kt et)) (hg : o.guard = none) (mo x : Operand)
    (hop : o.op = .call { callee := .builtin .delete, args := #[mo, x], argTypes := #[t, kt] }) (hd : o.dst = none) (h : MapIs encK encE w b m) (k : κ) (hm : a.eval mo = .map (some b)) (hx : a.eval x = encK k)
    (hK : ∀ w1, Aside0 (MapIs encK encE w1 b (mdel m k)) → Aside0 (w.grownBy w1 (some b)) → wpList P ops Q rest a w1) : wpList P ops Q (o :: rest) a w := by
  obtain ⟨w1, hrun, h1, h2, _⟩ := exec_delete_map K hc ht mo x hop h k hm hx
  refine wp_value_ hg hrun ?_
  rw [hd]
  exact hK w1 ⟨h1⟩ ⟨h2⟩
theorem wp_range_map (ht : P.underlying t = some (.map kt et)) (hg : o.guard = none) (mo : Operand) (hop : o.op = .range t mo) (h : MapIs encK encE w b m) (hm : a.eval mo = .map (some b))
    (hK : ∀ w', Aside0 (RangeIs encK encE w' b w.heap.size m []) → Aside0 (Below w.heap.size w w') → Aside0 (w'.heap.size = w.heap.size + 1) → wpList P ops Q rest (a.put o.dst (.pointer (some ⟨w.heap.size, 0, none⟩))) w') : wpList P ops Q (o :: rest) a w := by
  obtain ⟨w1, hrun, h1, h2, h3⟩ := exec_range_map ht mo hop h hm
  exact wp_value_ hg hrun (hK w1 ⟨h1⟩ ⟨h2⟩ ⟨h3⟩)
theorem wp_next_map (h : RangeIs encK encE w b r m is) (hg : o.guard = none) (ro : Operand) (hop : o.op = .next ro false) (hr : a.eval ro = .pointer (some ⟨r, 0, none⟩))
    (h0 : Aside0 (∀ i, i < m.length → i ∈ is) → wpList P ops Q rest (a.put o.dst (.tuple #[.bool false])) w)
    (h1 : ∀ i k v w', Aside0 (m[i]? = some (k, v) ∧ i ∉ is) → Aside0 (RangeIs encK encE w' b r m (is ++ [i])) → Aside0 (w.grownBy w' (some r)) → Aside0 (w'.heap.size = w.heap.size) → Aside0 ((Instr.entry (.pointer (some ⟨r, 0, none⟩))).run P w' = .ok (.tuple #[encK k, encE v]) w') →
      wpList P ops Q rest (a.put o.dst (.tuple #[.bool true, encK k, encE v])) w') : wpList P ops Q (o :: rest) a w := by
  rcases exec_next_map h ro hop hr with ⟨h2, hrun⟩ | ⟨i, k, v, w', g1, g2, hrun, g3, g4, g5, g6⟩
  · exact wp_value_ hg hrun (h0 ⟨h2⟩)
  · exact wp_value_ hg hrun (h1 i k v w' ⟨⟨g1, g2⟩⟩ ⟨g3⟩ ⟨g4⟩ ⟨g5⟩ ⟨g6⟩)
theorem wp_entry_map {v : Value} (hg : o.guard = none) (ro : Operand) (hop : o.op = .entry ro) (hr : a.eval ro = .pointer (some ⟨r, 0, none⟩)) (h : (Instr.entry (.pointer (some ⟨r, 0, none⟩))).run P w = .ok v w)
    (hK : wpList P ops Q rest (a.put o.dst v) w) : wpList P ops Q (o :: rest) a w := wp_value_ hg (exec_entry_map ro hop hr h) hK
end
section
variable {κ ε : Type} [DecidableEq κ] {encK : κ → Value} {encE : ε → Value} {P : Program} {w w1 : World} {b r : Nat} {m : List (κ × ε)} {t kt et : TypeId} {ops : Array Oper} {o : Oper} {a : Act} {Q : Exit → Act → World → Prop} {Kc : Act → World → Prop} {N : Option Tmp}
theorem yields_len (ht : P.underlying t = some (.map kt et)) (mo : Operand) (h : MapIs encK encE w b m) (hop : o.op = .call { callee := .builtin .len, args := #[mo], argTypes := #[t] }) (hm : a.eval mo = .map (some b)) {v : Value} (hv : Value.int .i64 m.length = v) :
    (execOp a.eval o).run P w = .ok (.value v) w := hv ▸ exec_len_map ht mo hop h hm
theorem step_len_map {E : Prop} (ht : P.underlying t = some (.map kt et)) (hw : Region.wanted o (yielded ops a.tmps) = true) (mo : Operand) (hop : o.op = .call { callee := .builtin .len, args := #[mo], argTypes := #[t] }) (h : MapIs encK encE w b m) (hm : a.eval mo = .map (some b))
    (hK : Kc (a.put o.dst (.int .i64 m.length)) w) : if Region.wanted o (yielded ops a.tmps) = true then Oper.wp P o a w Kc Q else E := by
  rw [if_pos hw]
  unfold Oper.wp
  rw [exec_len_map ht mo hop h hm]
  exact hK
theorem step_mapEntry (K : KeyKind P kt encK) (ht : P.underlying t = some (.map kt et)) (hw : Region.wanted o (yielded ops a.tmps) = true) (hN : o.dst = N) (mo x : Operand) (hop : o.op = .mapEntry t mo x) (h : MapIs encK encE w b m) (z : ε) (hz : ∀ w, (zeroValue et).run P w = .ok (encE z) w) (k : κ)
    (hm : a.eval mo = .map (some b)) (hx : a.eval x = encK k)
    (hK : ∀ w1 stamp v0, Aside0 (EntryIs encK encE w1 b (mput m k ((mget m k).getD z)) k stamp) → Aside0 (w.grownBy w1 (some b)) → Kc (a.put N (.tuple #[v0, .int .i64 (stamp : Nat)])) w1) :
    if Region.wanted o (yielded ops a.tmps) = true then Oper.wp P o a w Kc Q else Kc (a.put N undef) w := by
  obtain ⟨w1, stamp, v0, hrun, h1, h2, _⟩ := exec_mapEntry_map K ht mo x hop h z hz k hm hx
  exact value_ hw hN hrun (hK w1 stamp v0 ⟨h1⟩ ⟨h2⟩)
theorem step_entryStore (hw : Region.wanted o (yielded ops a.tmps) = true) (hN : o.dst = none) (mo x vo : Operand) (hop : o.op = .entryStore t mo x vo) {k : κ} {stamp : Nat} (h : EntryIs encK encE w b m k stamp) (v : ε) (hm : a.eval mo = .map (some b)) (hx : a.eval x = .int .i64 (stamp : Nat)) (hv : a.eval vo = encE v)
    (hK : ∀ w1, Aside0 (MapIs encK encE w1 b (mput m k v)) → Aside0 (w.grownBy w1 (some b)) → Kc a w1) :
    if Region.wanted o (yielded ops a.tmps) = true then Oper.wp P o a w Kc Q else Kc (a.put none undef) w := by
  obtain ⟨w1, hrun, h1, h2, _⟩ := exec_entryStore_map (P := P) mo x vo hop h v hm hx hv
  exact skip_ hw hN hrun (hK w1 ⟨h1⟩ ⟨h2⟩)
end
theorem cell_heap {w w' : World} (h : w'.heap = w.heap) (a : Addr) : w'.cell? a = w.cell? a := by unfold World.cell?; rw [h]
/-- A map beside nil. -/
theorem run_neq_map {P : Program} {t kt et : TypeId} (ht : P.underlying t = some (.map kt et)) (b : Option Nat) (w : World) : (binOp .neq t (.map b) (.map none)).run P w = .ok (.bool b.isSome) w := by
  have h : (Op.equal t (.map b) (.map none)).run P w = .ok b.isNone w := by
    unfold Op.equal Op.maxDepth Op.equalIn
    cases b <;> simp [run_underlying ht]
  unfold binOp
  simp only [Sem.run_bind, h, Result.andThen_ok, Sem.run_pure]
  cases b <;> rfl
end Go.Proofs.Ytcfeehaoeaoegaa.Print
