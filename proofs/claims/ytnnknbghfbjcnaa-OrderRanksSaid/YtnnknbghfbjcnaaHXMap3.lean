/- Maps, the walk's steps: length, delete, range, next and entry of a map, and the two halves of a store in an order that is drawn. -/
import Derived.Test.YtnnknbghfbjcnaaHXMap2
namespace Go.Proofs.Ytnnknbghfbjcnaa.Print
open Go.RowKit Go.Proofs.YtnnknbghfbjcnaaW.PrintWords Go.Proofs.YtnnknbghfbjcnaaW.PrintLast Go.Proofs.YtnnknbghfbjcnaaW.PrintMore
set_option linter.unusedVariables false
set_option linter.unusedSimpArgs false
set_option linter.unusedSectionVars false

section
variable {P : Program} {w w1 : World} {ops : Array Oper} {rest : List Oper} {o : Oper} {a : Act} {Q : Exit → Act → World → Prop}
theorem wp_value_ (hg : o.guard = none) {v : Value} (hrun : (execOp a.eval o).run P w = .ok (.value v) w1) (hK : wpList P ops Q rest (a.put o.dst v) w1) : wpList P ops Q (o :: rest) a w := by
  refine wpList_plain hg fun K' hK' => ?_
  unfold Oper.wp
  rw [hrun]
  exact hK' _ _ hK
theorem wp_skip_ (hg : o.guard = none) (hd : o.dst = none) (hrun : (execOp a.eval o).run P w = .ok .skip w1) (hK : wpList P ops Q rest a w1) : wpList P ops Q (o :: rest) a w := by
  refine wpList_plain hg fun K' hK' => ?_
  unfold Oper.wp
  rw [hrun]
  refine hK' _ _ ?_
  rw [hd]
  exact hK
end
section
variable {κ ε : Type} [DecidableEq κ] {encK : κ → Value} {encE : ε → Value} {P : Program} {w w1 : World} {b r : Nat} {m : List (κ × ε)} {is : List Nat} {t kt et : TypeId} {ops : Array Oper} {rest : List Oper} {o : Oper} {a : Act} {Q : Exit → Act → World → Prop}
theorem exec_len_map (ht : P.underlying t = some (.map kt et)) (mo : Operand) (hop : o.op = .call { callee := .builtin .len, args := #[mo], argTypes := #[t] }) (h : MapIs encK encE w b m) (hm : a.eval mo = .map (some b)) :
    (execOp a.eval o).run P w = .ok (.value (.int .i64 m.length)) w := by
  have hrun := run_len_map ht h o.type
  unfold execOp
  simp only [hop, resolve, invoke, builtin, Sem.run_bind, Sem.run_pure, Result.andThen_ok, List.map_toArray, List.map_cons, List.map_nil, hm, hrun]
theorem exec_delete_map (K : KeyKind P kt encK) (hc : ∀ (k : κ) (w : World), (Instr.checkKey true 10000 kt (encK k)).run P w = .ok () w) (ht : P.underlying t = some (.map kt et)) (mo x : Operand)
    (hop : o.op = .call { callee := .builtin .delete, args := #[mo, x], argTypes := #[t, kt] }) (h : MapIs encK encE w b m) (k : κ) (hm : a.eval mo = .map (some b)) (hx : a.eval x = encK k) :
    ∃ w1, (execOp a.eval o).run P w = .ok (.value (.tuple #[])) w1 ∧ MapIs encK encE w1 b (mdel m k) ∧ w.grownBy w1 (some b) ∧ w1.heap.size = w.heap.size := by
  obtain ⟨w1, hrun, h1⟩ := run_delete_map K hc ht h k o.type
  refine ⟨w1, ?_, h1⟩
  unfold execOp
  simp only [hop, resolve, invoke, builtin, Sem.run_bind, Sem.run_pure, Result.andThen_ok, List.map_toArray, List.map_cons, List.map_nil, hm, hx, hrun]
theorem exec_range_map (ht : P.underlying t = some (.map kt et)) (mo : Operand) (hop : o.op = .range t mo) (h : MapIs encK encE w b m) (hm : a.eval mo = .map (some b)) :
    ∃ w', (execOp a.eval o).run P w = .ok (.value (.pointer (some ⟨w.heap.size, 0, none⟩))) w' ∧ RangeIs encK encE w' b w.heap.size m [] ∧ Below w.heap.size w w' ∧ w'.heap.size = w.heap.size + 1 := by
  obtain ⟨w1, hrun, h1⟩ := run_range_map ht h
  refine ⟨w1, ?_, h1⟩
  unfold execOp
  simp only [hop, Sem.run_bind, Sem.run_pure, Result.andThen_ok, hm, hrun]
theorem exec_next_map (h : RangeIs encK encE w b r m is) (ro : Operand) (hop : o.op = .next ro false) (hr : a.eval ro = .pointer (some ⟨r, 0, none⟩)) :
    ((∀ i, i < m.length → i ∈ is) ∧ (execOp a.eval o).run P w = .ok (.value (.tuple #[.bool false])) w) ∨
    ∃ (i : Nat) (k : κ) (v : ε) (w' : World), m[i]? = some (k, v) ∧ i ∉ is ∧ (execOp a.eval o).run P w = .ok (.value (.tuple #[.bool true, encK k, encE v])) w' ∧
      RangeIs encK encE w' b r m (is ++ [i]) ∧ w.grownBy w' (some r) ∧ w'.heap.size = w.heap.size ∧ (Instr.entry (.pointer (some ⟨r, 0, none⟩))).run P w' = .ok (.tuple #[encK k, encE v]) w' := by
  rcases run_next_map (P := P) h o.type with ⟨h1, h2⟩ | ⟨i, k, v, w', h1, h2, h3, h4⟩
  · refine .inl ⟨h1, ?_⟩
    unfold execOp
    simp only [hop, Sem.run_bind, Sem.run_pure, Result.andThen_ok, hr, h2]
  · refine .inr ⟨i, k, v, w', h1, h2, ?_, h4⟩
    unfold execOp
    simp only [hop, Sem.run_bind, Sem.run_pure, Result.andThen_ok, hr, h3]
theorem exec_entry_map {v : Value} (ro : Operand) (hop : o.op = .entry ro) (hr : a.eval ro = .pointer (some ⟨r, 0, none⟩)) (h : (Instr.entry (.pointer (some ⟨r, 0, none⟩))).run P w = .ok v w) :
    (execOp a.eval o).run P w = .ok (.value v) w := by
  unfold execOp
  simp only [hop, Sem.run_bind, Sem.run_pure, Result.andThen_ok, hr, h]
theorem exec_mapEntry_map (K : KeyKind P kt encK) (ht : P.underlying t = some (.map kt et)) (mo x : Operand) (hop : o.op = .mapEntry t mo x) (h : MapIs encK encE w b m) (z : ε) (hz : ∀ w, (zeroValue et).run P w = .ok (encE z) w) (k : κ)
    (hm : a.eval mo = .map (some b)) (hx : a.eval x = encK k) :
    ∃ w1 stamp v0, (execOp a.eval o).run P w = .ok (.value (.tuple #[v0, .int .i64 (stamp : Nat)])) w1 ∧ EntryIs encK encE w1 b (mput m k ((mget m k).getD z)) k stamp ∧ w.grownBy w1 (some b) ∧ w1.heap.size = w.heap.size := by
  obtain ⟨w1, stamp, v0, hrun, h1⟩ := run_mapEntry_map K ht h z hz k
  refine ⟨w1, stamp, v0, ?_, h1⟩
  unfold execOp
  simp only [hop, Sem.run_bind, Sem.run_pure, Result.andThen_ok, hm, hx, hrun]
theorem exec_entryStore_map (mo x vo : Operand) (hop : o.op = .entryStore t mo x vo) {k : κ} {stamp : Nat} (h : EntryIs encK encE w b m k stamp) (v : ε) (hm : a.eval mo = .map (some b)) (hx : a.eval x = .int .i64 (stamp : Nat)) (hv : a.eval vo = encE v) :
    ∃ w1, (execOp a.eval o).run P w = .ok .skip w1 ∧ MapIs encK encE w1 b (mput m k v) ∧ w.grownBy w1 (some b) ∧ w1.heap.size = w.heap.size := by
  obtain ⟨w1, hrun, h1⟩ := run_entryStore_map (P := P) (t := t) h v
  refine ⟨w1, ?_, h1⟩
  unfold execOp
  simp only [hop, Sem.run_bind, Sem.run_pure, Result.andThen_ok, hm, hx, hv, hrun]
end
section
variable {κ ε : Type} [DecidableEq κ] {encK : κ → Value} {encE : ε → Value} {P : Program} {w w1 : World} {b r : Nat} {m : List (κ × ε)} {is : List Nat} {t kt et : TypeId} {ops : Array Oper} {rest : List Oper} {o : Oper} {a : Act} {Q : Exit → Act → World → Prop}
theorem wp_len_map (ht : P.underlying t = some (.map kt et)) (hg : o.guard = none) (mo : Operand) (hop : o.op = .call { callee := .builtin .len, args := #[mo], argTypes := #[t] }) (h : MapIs encK encE w b m) (hm : a.eval mo = .map (some b))
    (hK : wpList P ops Q rest (a.put o.dst (.int .i64 m.length)) w) : wpList P ops Q (o :: rest) a w := wp_value_ hg (exec_len_map ht mo hop h hm) hK
theorem wp_delete_map (K : KeyKind P kt encK) (hc : ∀ (k : κ) (w : World), (Instr.checkKey true 10000 kt (encK k)).run P w = .ok () w) (ht : P.underlying t = some (.map kt et)) (hg : o.guard = none) (mo x : Operand)
    (hop : o.op = .call { callee := .builtin .delete, args := #[mo, x], argTypes := #[t, kt] }) (hd : o.dst = none) (h : MapIs encK encE w b m) (k : κ) (hm : a.eval mo = .map (some b)) (hx : a.eval x = encK k)
    (hK : ∀ w1, Aside0 (MapIs encK encE w1 b (mdel m k)) → Aside0 (w.grownBy w1 (some b)) → wpList P ops Q rest a w1) : wpList P ops Q (o :: rest) a w := by
  obtain ⟨w1, hrun, h1, h2, _⟩ := exec_delete_map K hc ht mo x hop h k hm hx
  refine wp_value_ hg hrun ?_
  rw [hd]
  exact hK w1 ⟨h1⟩ ⟨h2⟩
theorem wp_range_map (ht : P.underlying t = some (.map kt et)) (hg : o.guard = none) (mo : Operand) (hop : o.op = .range t mo) (h : MapIs encK encE w b m) (hm : a.eval mo = .map (some b))
    (hK : ∀ w', Aside0 (RangeIs encK encE w' b w.heap.size m []) → Aside0 (Below w.heap.size w w') → Aside0 (w'.heap.size = w.heap.size + 1) → wpList P ops Q rest (a.put o.dst (.pointer (some ⟨w.heap.size, 0, none⟩))) w') : wpList P ops Q (o :: rest) a w := by
  obtain ⟨w1, hrun, h1, h2, h3⟩ := exec_range_map ht mo hop h hm
  exact wp_value_ hg hrun (hK w1 ⟨h1⟩ ⟨h2⟩ ⟨h3⟩)
theorem wp_next_map (h : RangeIs encK encE w b r m is) (hg : o.guard = none) (ro : Operand) (hop : o.op = .next ro false) (hr : a.eval ro = .pointer (some ⟨r, 0, none⟩))
    (h0 : Aside0 (∀ i, i < m.length → i ∈ is) → wpList P ops Q rest (a.put o.dst (.tuple #[.bool false])) w)
    (h1 : ∀ i k v w', Aside0 (m[i]? = some (k, v) ∧ i ∉ is) → Aside0 (RangeIs encK encE w' b r m (is ++ [i])) → Aside0 (w.grownBy w' (some r)) → Aside0 (w'.heap.size = w.heap.size) → Aside0 ((Instr.entry (.pointer (some ⟨r, 0, none⟩))).run P w' = .ok (.tuple #[encK k, encE v]) w') →
      wpList P ops Q rest (a.put o.dst (.tuple #[.bool true, encK k, encE v])) w') : wpList P ops Q (o :: rest) a w := by
  rcases exec_next_map h ro hop hr with ⟨h2, hrun⟩ | ⟨i, k, v, w', g1, g2, hrun, g3, g4, g5, g6⟩
  · exact wp_value_ hg hrun (h0 ⟨h2⟩)
  · exact wp_value_ hg hrun (h1 i k v w' ⟨⟨g1, g2⟩⟩ ⟨g3⟩ ⟨g4⟩ ⟨g5⟩ ⟨g6⟩)
theorem wp_entry_map {v : Value} (hg : o.guard = none) (ro : Operand) (hop : o.op = .entry ro) (hr : a.eval ro = .pointer (some ⟨r, 0, none⟩)) (h : (Instr.entry (.pointer (some ⟨r, 0, none⟩))).run P w = .ok v w)
    (hK : wpList P ops Q rest (a.put o.dst v) w) : wpList P ops Q (o :: rest) a w := wp_value_ hg (exec_entry_map ro hop hr h) hK
end
section
variable {κ ε : Type} [DecidableEq κ] {encK : κ → Value} {encE : ε → Value} {P : Program} {w w1 : World} {b r : Nat} {m : List (κ × ε)} {t kt et : TypeId} {ops : Array Oper} {o : Oper} {a : Act} {Q : Exit → Act → World → Prop} {Kc : Act → World → Prop} {N : Option Tmp}
theorem yields_len (ht : P.underlying t = some (.map kt et)) (mo : Operand) (h : MapIs encK encE w b m) (hop : o.op = .call { callee := .builtin .len, args := #[mo], argTypes := #[t] }) (hm : a.eval mo = .map (some b)) {v : Value} (hv : Value.int .i64 m.length = v) :
    (execOp a.eval o).run P w = .ok (.value v) w := hv ▸ exec_len_map ht mo hop h hm
theorem step_len_map {E : Prop} (ht : P.underlying t = some (.map kt et)) (hw : Region.wanted o (yielded ops a.tmps) = true) (mo : Operand) (hop : o.op = .call { callee := .builtin .len, args := #[mo], argTypes := #[t] }) (h : MapIs encK encE w b m) (hm : a.eval mo = .map (some b))
    (hK : Kc (a.put o.dst (.int .i64 m.length)) w) : if Region.wanted o (yielded ops a.tmps) = true then Oper.wp P o a w Kc Q else E := by
  rw [if_pos hw]
  unfold Oper.wp
  rw [exec_len_map ht mo hop h hm]
  exact hK
theorem step_mapEntry (K : KeyKind P kt encK) (ht : P.underlying t = some (.map kt et)) (hw : Region.wanted o (yielded ops a.tmps) = true) (hN : o.dst = N) (mo x : Operand) (hop : o.op = .mapEntry t mo x) (h : MapIs encK encE w b m) (z : ε) (hz : ∀ w, (zeroValue et).run P w = .ok (encE z) w) (k : κ)
    (hm : a.eval mo = .map (some b)) (hx : a.eval x = encK k)
    (hK : ∀ w1 stamp v0, Aside0 (EntryIs encK encE w1 b (mput m k ((mget m k).getD z)) k stamp) → Aside0 (w.grownBy w1 (some b)) → Kc (a.put N (.tuple #[v0, .int .i64 (stamp : Nat)])) w1) :
    if Region.wanted o (yielded ops a.tmps) = true then Oper.wp P o a w Kc Q else Kc (a.put N undef) w := by
  obtain ⟨w1, stamp, v0, hrun, h1, h2, _⟩ := exec_mapEntry_map K ht mo x hop h z hz k hm hx
  exact value_ hw hN hrun (hK w1 stamp v0 ⟨h1⟩ ⟨h2⟩)
theorem step_entryStore (hw : Region.wanted o (yielded ops a.tmps) = true) (hN : o.dst = none) (mo x vo : Operand) (hop : o.op = .entryStore t mo x vo) {k : κ} {stamp : Nat} (h : EntryIs encK encE w b m k stamp) (v : ε) (hm : a.eval mo = .map (some b)) (hx : a.eval x = .int .i64 (stamp : Nat)) (hv : a.eval vo = encE v)
    (hK : ∀ w1, Aside0 (MapIs encK encE w1 b (mput m k v)) → Aside0 (w.grownBy w1 (some b)) → Kc a w1) :
    if Region.wanted o (yielded ops a.tmps) = true then Oper.wp P o a w Kc Q else Kc (a.put none undef) w := by
  obtain ⟨w1, hrun, h1, h2, _⟩ := exec_entryStore_map (P := P) mo x vo hop h v hm hx hv
  exact skip_ hw hN hrun (hK w1 ⟨h1⟩ ⟨h2⟩)
end
theorem cell_heap {w w' : World} (h : w'.heap = w.heap) (a : Addr) : w'.cell? a = w.cell? a := by unfold World.cell?; rw [h]
/-- A map beside nil. -/
theorem run_neq_map {P : Program} {t kt et : TypeId} (ht : P.underlying t = some (.map kt et)) (b : Option Nat) (w : World) : (binOp .neq t (.map b) (.map none)).run P w = .ok (.bool b.isSome) w := by
  have h : (Op.equal t (.map b) (.map none)).run P w = .ok b.isNone w := by
    unfold Op.equal Op.maxDepth Op.equalIn
    cases b <;> simp [run_underlying ht]
  unfold binOp
  simp only [Sem.run_bind, h, Result.andThen_ok, Sem.run_pure]
  cases b <;> rfl
end Go.Proofs.Ytnnknbghfbjcnaa.Print
