/- Maps whose keys are pairs of whole numbers ([2]int). -/
import Derived.Test.YtcfeehaoeaoegaaHXMap
import Derived.ChangeKeysEq
import Derived.Test.YtcfeehaoeaoegaaPrint0
namespace Go.Proofs.Ytcfeehaoeaoegaa.Print
open Go.RowKit Go.Proofs.YtcfeehaoeaoegaaW.PrintWords Go.Proofs.YtcfeehaoeaoegaaW.PrintLast Go.Proofs.YtcfeehaoeaoegaaW.PrintMore
set_option linter.unusedVariables false
set_option linter.unusedSimpArgs false

abbrev encP (p : Int × Int) : Value := .agg #[.int .i64 p.1, .int .i64 p.2]
section
variable {P : Program} {kt it : TypeId} {inf : TypeInfo} (hk : P.underlying kt = some (.array 2 it)) (hu : P.underlying it = some (.int .i64)) (hinf : P.info? it = some inf) (hs : inf.size = 1)
include hk hu hinf hs
omit hk in
theorem run_eqItems_pair (p q : Int × Int) (w : World) : (Op.eqItems 9999 it (P.cellsOf it) #[.int .i64 p.1, .int .i64 p.2] #[.int .i64 q.1, .int .i64 q.2] [0, 1]).run P w = .ok (decide (p = q)) w := by
  have he : P.plainKey it = true := by unfold Program.plainKey; simp [hu]
  have hc : P.cellsOf it = 1 := by simp [Program.cellsOf, hinf, hs]
  have heq : ∀ (a b : Int) (w : World), (Op.equalIn 9999 it (.int .i64 a) (.int .i64 b)).run P w = .ok (a == b) w := fun a b w => by
    unfold Op.equalIn
    simp [run_underlying hu]
  have p0 : ∀ (x y : Int) (w : World), (part it #[.int .i64 x, .int .i64 y] (0 * 1)).run P w = .ok (.int .i64 x) w := fun x y w => run_part_plain w he rfl
  have p1 : ∀ (x y : Int) (w : World), (part it #[.int .i64 x, .int .i64 y] (1 * 1)).run P w = .ok (.int .i64 y) w := fun x y w => run_part_plain w he rfl
  obtain ⟨a, b⟩ := p
  obtain ⟨c, d⟩ := q
  have p2 : ∀ (x y : Int) (w : World), (part it #[.int .i64 x, .int .i64 y] 1).run P w = .ok (.int .i64 y) w := fun x y w => run_part_plain w he rfl
  rw [hc]
  simp only [Op.eqItems, Sem.run_bind, p0, p1, heq, Result.andThen_ok]
  by_cases h1 : a = c
  · by_cases h2 : b = d
    · simp [h1, h2, p2, heq]
    · simp [h1, h2, p2, heq]
  · simp [h1]
theorem run_equal_pair (p q : Int × Int) (w : World) : (Op.equal kt (encP p) (encP q)).run P w = .ok (decide (p = q)) w := by
  show (Op.equalIn (9999 + 1) kt (.agg #[.int .i64 p.1, .int .i64 p.2]) (.agg #[.int .i64 q.1, .int .i64 q.2])).run P w = _
  rw [run_equalIn_array w 9999 _ _ hk hinf]
  exact run_eqItems_pair hu hinf hs p q w
theorem findAsking_pair {ε : Type} (encE : ε → Value) (k : Int × Int) : ∀ (es : List MapEntry) (m : List ((Int × Int) × ε)) (i : Nat) (w : World), es.map (fun x => (x.key, x.val)) = m.map (fun p => (encP p.1, encE p.2)) →
    (Instr.findAsking kt (encP k) es i).run P w = .ok ((midx m k i).map fun q => (q.1, encE q.2)) w
  | [], [], i, w, _ => rfl
  | [], p :: r, i, w, h => by simp at h
  | x :: es, [], i, w, h => by simp at h
  | x :: es, p :: r, i, w, h => by
    simp only [List.map_cons, List.cons.injEq, Prod.mk.injEq] at h
    obtain ⟨⟨hkx, hv⟩, h⟩ := h
    unfold Instr.findAsking midx
    rw [Sem.run_bind, hkx, run_equal_pair hk hu hinf hs k p.1 w, Result.andThen_ok]
    by_cases he : p.1 = k
    · rw [decide_eq_true he.symm, if_pos rfl, if_pos he, hv]
      rfl
    · rw [decide_eq_false (fun e => he e.symm), if_neg (by decide), if_neg he]
      exact findAsking_pair encE k es r (i + 1) w h
theorem pairKey : KeyKind P kt encP where
  find := by
    intro ε encE k es m w he
    unfold Instr.findKey
    simp only [Sem.run_bind, run_underlying hk, Result.andThen_ok]
    have hn : ∀ (v : Value) (es : List MapEntry), Instr.findNow (.array 2 it) v es 0 = if es = [] then some none else none := fun v es => by
      cases es with
      | nil => rfl
      | cons a r => simp [Instr.findNow, Instr.sameNow]
    rw [hn]
    cases es with
    | nil =>
      cases m with
      | nil => rfl
      | cons a r => simp at he
    | cons a r =>
      simp only [if_neg (List.cons_ne_nil a r)]
      exact findAsking_pair hk hu hinf hs encE k (a :: r) m 0 w he
  check := by
    intro e k w
    have he : P.plainKey it = true := by unfold Program.plainKey; simp [hu]
    have hc : P.cellsOf it = 1 := by simp [Program.cellsOf, hinf, hs]
    have p0 : ∀ (w : World), (part it #[.int .i64 k.1, .int .i64 k.2] (0 * 1)).run P w = .ok (.int .i64 k.1) w := fun w => run_part_plain w he rfl
    have p1 : ∀ (w : World), (part it #[.int .i64 k.1, .int .i64 k.2] (1 * 1)).run P w = .ok (.int .i64 k.2) w := fun w => run_part_plain w he rfl
    have hch : ∀ (a : Int) (w : World), (Instr.checkKey e 9999 it (.int .i64 a)).run P w = .ok () w := fun a w => by
      unfold Instr.checkKey
      simp [run_underlying hu]
    show (Instr.checkKey e (9999 + 1) kt (.agg #[.int .i64 k.1, .int .i64 k.2])).run P w = _
    unfold Instr.checkKey
    simp only [Sem.run_bind, run_underlying hk, Result.andThen_ok]
    simp only [Std.Legacy.Range.forIn_eq_forIn_range', Std.Legacy.Range.size, Nat.sub_zero, Nat.add_one_sub_one, Nat.div_one]
    rw [show List.range' 0 2 = [0, 1] from rfl]
    simp only [List.forIn_cons, List.forIn_nil, Sem.run_bind, run_sizeOf _ hinf, hc, Result.andThen_ok, p0, p1, hch, Sem.run_pure]
  same := by
    intro k
    simp [Instr.sameBits]
  inj := by
    intro k k' h
    obtain ⟨a, b⟩ := k
    obtain ⟨c, d⟩ := k'
    simp [encP] at h
    simp [h]
end
end Go.Proofs.Ytcfeehaoeaoegaa.Print

namespace Go.Proofs.Ytcfeehaoeaoegaa.Print
open Go.RowKit Go.Proofs.YtcfeehaoeaoegaaW.PrintWords Go.Proofs.YtcfeehaoeaoegaaW.PrintLast Go.Proofs.YtcfeehaoeaoegaaW.PrintMore
set_option linter.unusedVariables false
set_option linter.unusedSimpArgs false

/-- Blocks and their tags: the thing a block belongs to, and its place in it. -/
abbrev Tags := Nat → Nat × Nat
def tagPut (o : Tags) (k : Nat) (t : Nat × Nat) : Tags := fun j => if j = k then t else o j
/-- Block B holds the rows rs; it and its rows' blocks bear the tag t. -/
structure RowsIs (w : World) (base B t : Nat) (o : Tags) (vs : Nat → Value) (rs : List (List Int)) : Prop where
  cell : ∀ i, i < rs.length → w.cell? ⟨B, i, none⟩ = some (vs i)
  row : ∀ i, i < rs.length → Kd.R (Kd.int .i64) 3 w base (fun k => o k = (t, i + 1)) (vs i) (rs.getD i [])
  own : o B = (t, 0)
  lo : base ≤ B
  top : B < w.heap.size
  frz : ∀ i, w.frozen? ⟨B, i, none⟩ = false
section
variable {w w1 : World} {base B t : Nat} {o o' : Tags} {vs : Nat → Value} {rs : List (List Int)}
theorem rows_move (h : RowsIs w base B t o vs rs) (hs : w.heap.size ≤ w1.heap.size) (hm : ∀ k, k < w.heap.size → (o k).1 = t → w1.heap[k]? = w.heap[k]?) : RowsIs w1 base B t o vs rs := by
  have hB := hm B h.top (by rw [h.own])
  refine ⟨fun i hi => ?_, fun i hi => Kd.R_step (h.row i hi) (fun k hk hlt => hm k hlt (by rw [hk])), h.own, h.lo, Nat.lt_of_lt_of_le h.top hs, fun i => (World.frozen?_of_block hB).trans (h.frz i)⟩
  rw [← h.cell i hi]
  unfold World.cell?
  rw [hB]
theorem RowsIs.below (h : RowsIs w base B t o vs rs) (hb : Below w.heap.size w w1) : RowsIs w1 base B t o vs rs := rows_move h hb.size (fun k hk _ => hb.block k hk)
theorem RowsIs.drew (h : RowsIs w base B t o vs rs) : RowsIs w.drew base B t o vs rs := rows_move h (Nat.le_refl _) (fun _ _ _ => rfl)
theorem RowsIs.grown (h : RowsIs w base B t o vs rs) {row : Option Nat} (hg : w.grownBy w1 row) (hne : ∀ k, row = some k → (o k).1 ≠ t) : RowsIs w1 base B t o vs rs :=
  rows_move h hg.size (fun k hk ht => hg.block k hk (fun e => hne k e.symm ht))
/-- Tags of what is not there yet may change. -/
theorem RowsIs.retag (h : RowsIs w base B t o vs rs) (ho : ∀ k, k < w.heap.size → o' k = o k) : RowsIs w base B t o' vs rs := by
  refine ⟨h.cell, fun i hi => ?_, by rw [ho B h.top]; exact h.own, h.lo, h.top, h.frz⟩
  have h1 := h.row i hi
  exact Kd.R_reok rfl h1 (fun k hk => by rw [ho k (Kd.R_lt h1 k hk)]; exact h1.1 k hk)
/-- A row has grown (or is another one), and its new value stands in its cell. -/
theorem RowsIs.put (h : RowsIs w base B t o vs rs) {i : Nat} (hi : i < rs.length) {v1 : Value} {r1 : List Int} (hr : Kd.R (Kd.int .i64) 3 w1 base (fun _ => True) v1 r1) (hg : w.grownBy w1 (vs i).ownBlock)
    (hat : v1.ownBlock = (vs i).ownBlock ∨ ∃ b, v1.ownBlock = some b ∧ w.heap.size ≤ b) :
    ∃ o', (∀ k, k < w.heap.size → o' k = o k) ∧ (∀ k, v1.ownBlock = some k → o' k = (t, i + 1)) ∧ RowsIs (w1.setCell ⟨B, i, none⟩ v1) base B t o' (fun j => if j = i then v1 else vs j) (rs.set i r1) := by
  have hvi := h.row i hi
  have hBv : ∀ k, (vs i).ownBlock = some k → k ≠ B := fun k hk e => by
    have h1 := hvi.1 k hk
    rw [e, h.own] at h1
    simp at h1
  have hB1 : w1.heap[B]? = w.heap[B]? := hg.block B h.top (fun e => hBv B e.symm rfl)
  have hsz : w1.heap.size ≤ (w1.setCell ⟨B, i, none⟩ v1).heap.size := by simp [World.setCell]
  obtain ⟨o', ho1, ho2, ho3⟩ : ∃ o' : Tags, (∀ k, k < w.heap.size → o' k = o k) ∧ (∀ k, v1.ownBlock = some k → o' k = (t, i + 1)) ∧ (∀ k, v1.ownBlock = some k → k ≠ B) := by
    rcases hat with e | ⟨b, e, hb⟩
    · exact ⟨o, fun _ _ => rfl, fun k hk => hvi.1 k (by rw [← e]; exact hk), fun k hk => hBv k (by rw [← e]; exact hk)⟩
    · refine ⟨tagPut o b (t, i + 1), fun k hk => ?_, fun k hk => ?_, fun k hk e2 => ?_⟩
      · unfold tagPut
        rw [if_neg (by omega)]
      · rw [e] at hk
        injection hk with hk
        subst hk
        unfold tagPut
        rw [if_pos rfl]
      · rw [e] at hk
        injection hk with hk
        have := h.top
        omega
  refine ⟨o', ho1, ho2, ?_⟩
  refine ⟨fun j hj => ?_, fun j hj => ?_, by rw [ho1 B h.top]; exact h.own, h.lo, ?_, fun j => ?_⟩
  · rw [List.length_set] at hj
    have hc : w1.cell? ⟨B, j, none⟩ = some (vs j) := by
      rw [← h.cell j hj]
      unfold World.cell?
      rw [hB1]
    by_cases e : j = i
    · subst e
      rw [if_pos rfl]
      exact World.cell?_setCell_same _ _ _ hc
    · rw [if_neg e]
      refine (World.cell?_setCell_other (h := fun e2 => ?_) ..).trans hc
      injection e2 with _ e2
      exact e e2.symm
  · rw [List.length_set] at hj
    by_cases e : j = i
    · subst e
      rw [if_pos rfl]
      have hget : (rs.set j r1).getD j [] = r1 := by simp [List.getElem?_set, hj]
      rw [hget]
      refine Kd.R_step (Kd.R_reok rfl hr ho2) (fun k hk hlt => Below.heap_setCell _ _ _ _ (fun e2 => ?_))
      have e3 : k = B := e2
      rw [e3, ho1 B h.top, h.own] at hk
      simp at hk
    · rw [if_neg e]
      have hget : (rs.set i r1).getD j [] = rs.getD j [] := by
        rw [List.getD_eq_getElem?_getD, List.getElem?_set, if_neg (fun x => e x.symm), ← List.getD_eq_getElem?_getD]
      rw [hget]
      have hrj := h.row j hj
      have hlt : ∀ k, (vs j).ownBlock = some k → k < w.heap.size := Kd.R_lt hrj
      have h1 : Kd.R (Kd.int .i64) 3 w1 base (fun k => o k = (t, j + 1)) (vs j) (rs.getD j []) := Kd.R_step hrj (fun k hk hlt => hg.block k hlt (fun e2 => by
        have h2 : o k = (t, i + 1) := hvi.1 k e2.symm
        rw [hk] at h2
        simp at h2
        exact e h2))
      have h2 := Kd.R_reok (ok := fun k => o' k = (t, j + 1)) rfl h1 (fun k hk => by rw [ho1 k (hlt k hk)]; exact hrj.1 k hk)
      refine Kd.R_step h2 (fun k hk hlt => Below.heap_setCell _ _ _ _ (fun e2 => ?_))
      have e3 : k = B := e2
      rw [e3, ho1 B h.top, h.own] at hk
      simp at hk
  · exact Nat.lt_of_lt_of_le h.top (Nat.le_trans hg.size hsz)
  · rw [World.frozen?_setCell]
    exact (World.frozen?_of_block hB1).trans (h.frz j)
end
end Go.Proofs.Ytcfeehaoeaoegaa.Print
