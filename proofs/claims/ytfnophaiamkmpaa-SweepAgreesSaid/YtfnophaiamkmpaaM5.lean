/- Several texts of this claim in one: HP37c, HRStart. -/
import Derived.Test.YtfnophaiamkmpaaM3
import Derived.Test.YtfnophaiamkmpaaF84
import Derived.Test.YtfnophaiamkmpaaM1
namespace Go.Proofs.Ytfnophaiamkmpaa.Print
open Go.RowKit Go.Proofs.YtfnophaiamkmpaaW.PrintWords Go.Proofs.YtfnophaiamkmpaaW.PrintLast Go.Proofs.YtfnophaiamkmpaaW.PrintMore
set_option linter.unusedVariables false
set_option linter.unusedSimpArgs false
/-! ### Has, With -/
/-! ### Neighbours -/
def rawNb (l : List S58) (v : Int) : Nat → List Int
 | 0 => []
 | j + 1 => rawNb l v j ++ ((if (l.getD j z58).f0 = v ∧ ¬ (l.getD j z58).f1 = v then [(l.getD j z58).f1] else []) ++ (if (l.getD j z58).f1 = v ∧ ¬ (l.getD j z58).f0 = v then [(l.getD j z58).f0] else []))
theorem rawNb_length (l : List S58) (v : Int) : ∀ j, (rawNb l v j).length ≤ 2 * j
 | 0 => by simp [rawNb]
 | j + 1 => by
  have := rawNb_length l v j
  unfold rawNb
  rw [List.length_append, List.length_append]
  have a : (if (l.getD j z58).f0 = v ∧ ¬ (l.getD j z58).f1 = v then [(l.getD j z58).f1] else []).length ≤ 1 := by split <;> simp
  have b : (if (l.getD j z58).f1 = v ∧ ¬ (l.getD j z58).f0 = v then [(l.getD j z58).f0] else []).length ≤ 1 := by split <;> simp
  omega
def rawRows (n : Nat) (l : List S58) (j : Nat) : List (List Int) := (List.range n).map fun (v : Nat) => rawNb l (v : Int) j
theorem rawRows_length (n : Nat) (l : List S58) (j : Nat) : (rawRows n l j).length = n := by simp [rawRows]
theorem rawRows_get (n : Nat) (l : List S58) (j v : Nat) (h : v < (rawRows n l j).length) : (rawRows n l j)[v] = rawNb l (v : Int) j := by simp [rawRows]
def nbS (l : List S58) (v : Int) : List Int := setOf (rawNb l v l.length)
def nbRows (n : Nat) (l : List S58) : List (List Int) := (List.range n).map fun (v : Nat) => nbS l (v : Int)
theorem nbRows_length (n : Nat) (l : List S58) : (nbRows n l).length = n := by simp [nbRows]
theorem nbRows_get (n : Nat) (l : List S58) (v : Nat) (h : v < (nbRows n l).length) : (nbRows n l)[v] = nbS l (v : Int) := by simp [nbRows]
def neighS (N : Int) (l : List S58) : List (List Int) := if chk N l = 0 then nbRows N.toNat l else []
theorem raw_same (n : Nat) (l : List S58) (j : Nat) (hj : j < l.length) (he : l[j].f0 = l[j].f1) : rawRows n l (j + 1) = rawRows n l j := by
 unfold rawRows
 refine List.map_congr_left fun v _ => ?_
 have h1 : ¬ (l[j].f1 = (v : Int) ∧ ¬ l[j].f1 = (v : Int)) := fun h => h.2 h.1
 conv => lhs; rw [rawNb]
 rw [getD_arc l j hj, he, if_neg h1]
 exact List.append_nil _
theorem raw_succ (n : Nat) (l : List S58) (j a b : Nat) (hj : j < l.length) (ha : l[j].f0 = (a : Int)) (hb : l[j].f1 = (b : Int)) (hab : a ≠ b) (han : a < n) (hbn : b < n) :
  ((rawRows n l j).set a (rawNb l (a : Int) j ++ [(b : Int)])).set b (rawNb l (b : Int) j ++ [(a : Int)]) = rawRows n l (j + 1) := by
 apply List.ext_getElem
 ·simp [rawRows]
 ·intro v h1 h2
  rw [List.getElem_set, List.getElem_set, rawRows_get, rawRows_get]
  conv => rhs; unfold rawNb
  rw [getD_arc l j hj, ha, hb]
  by_cases e : b = v
  ·subst e
   have h3 : ¬ ((a : Int) = (b : Int) ∧ ¬ (b : Int) = (b : Int)) := fun h => h.2 rfl
   have h4 : (b : Int) = (b : Int) ∧ ¬ (a : Int) = (b : Int) := ⟨rfl, by omega⟩
   rw [if_pos rfl, if_neg h3, if_pos h4, List.nil_append]
  ·rw [if_neg e]
   have h4 : ¬ ((b : Int) = (v : Int) ∧ ¬ (a : Int) = (v : Int)) := fun h => by omega
   rw [if_neg h4, List.append_nil]
   by_cases e2 : a = v
   ·subst e2
    have h3 : (a : Int) = (a : Int) ∧ ¬ (b : Int) = (a : Int) := ⟨rfl, by omega⟩
    rw [if_pos rfl, if_pos h3]
   ·have h3 : ¬ ((a : Int) = (v : Int) ∧ ¬ (b : Int) = (v : Int)) := fun h => by omega
    rw [if_neg e2, if_neg h3, List.append_nil]
def halfRows (n : Nat) (l : List S58) (v : Nat) : List (List Int) := (nbRows n l).take v ++ (rawRows n l l.length).drop v
theorem halfRows_length (n : Nat) (l : List S58) (v : Nat) (h : v ≤ n) : (halfRows n l v).length = n := by
 unfold halfRows
 rw [List.length_append, List.length_take, List.length_drop, nbRows_length, rawRows_length]
 omega
theorem halfRows_get (n : Nat) (l : List S58) (v : Nat) (h : v < n) (h2 : v < (halfRows n l v).length) : (halfRows n l v)[v] = rawNb l (v : Int) l.length := by
 have hl : ((nbRows n l).take v).length = v := by rw [List.length_take, nbRows_length]; omega
 have h3 : (halfRows n l v)[v]? = some (rawNb l (v : Int) l.length) := by
  unfold halfRows
  rw [List.getElem?_append_right (by omega), hl, Nat.sub_self, List.getElem?_drop, Nat.add_zero, List.getElem?_eq_getElem (by rw [rawRows_length]; exact h), rawRows_get]
 exact (List.getElem?_eq_some_iff.1 h3).2
theorem halfRows_succ (n : Nat) (l : List S58) (v : Nat) (h : v < n) : (halfRows n l v).set v (nbS l (v : Int)) = halfRows n l (v + 1) := by
 unfold halfRows
 have hl : ((nbRows n l).take v).length = v := by rw [List.length_take, nbRows_length]; omega
 have hd : v < (rawRows n l l.length).length := by rw [rawRows_length]; exact h
 have ht : v < (nbRows n l).length := by rw [nbRows_length]; exact h
 rw [List.set_append_right _ _ (by omega), hl, Nat.sub_self, List.drop_eq_getElem_cons hd, List.set_cons_zero, List.take_succ_eq_append_getElem ht, List.append_assoc, nbRows_get]
 rfl
theorem nb_l1 (N : Int) (l : List S58) (hl : l.length < 1000000000000) (hN : N ≤ 1048576) (h0 : 0 ≤ N) : ∀ d v : Nat, v + d = N.toNat → Ev (fun k => graph_Neighbours.l1 k (halfRows N.toNat l v) N (v : Int)) (nbRows N.toNat l)
 | 0, v, h => by
  have hv : v = N.toNat := by omega
  subst hv
  have : halfRows N.toNat l N.toNat = nbRows N.toNat l := by
   unfold halfRows
   rw [List.take_of_length_le (by rw [nbRows_length]; exact Nat.le_refl _), List.drop_of_length_le (by rw [rawRows_length]; exact Nat.le_refl _), List.append_nil]
  rw [this]
  refine Ev.step1 fun k => ?_
  simp only [graph_Neighbours.l1]
  rw [if_neg (by omega)]
 | d + 1, v, h => by
  have hv : v < N.toNat := by omega
  have ih := nb_l1 N l hl hN h0 d (v + 1) (by omega)
  have hlen := halfRows_length N.toNat l v (by omega)
  have hrl := rawNb_length l (v : Int) l.length
  rw [← halfRows_succ _ _ _ hv] at ih
  refine Ev.step (fun k => ?_) ih
  simp only [graph_Neighbours.l1]
  rw [if_pos (by omega), if_pos (by omega), if_pos (by rw [hlen]; omega), rd_row _ v (by rw [hlen]; exact hv), halfRows_get _ _ _ hv]
  unfold sets_Of.f
  rw [if_pos (by omega)]
  simp only [Option.bind_some, show ((v : Int)).toNat = v by omega, wrap_succ (show v < 1000000000000000 by omega)]
  rfl
theorem nb_l0 (N : Int) (l : List S58) (hl : l.length < 1000000000000) (hc : chk N l = 0) : ∀ d j : Nat, j + d = l.length → Ev (fun k => graph_Neighbours.l0 k (rawRows N.toNat l j) l (l.length : Int) (j : Int) N l) (nbRows N.toNat l)
 | 0, j, h => by
  obtain ⟨h0, h1, _⟩ := chk_ok hc
  have hj : j = l.length := by omega
  subst hj
  have h2 := nb_l1 N l hl h1 h0 N.toNat 0 (by omega)
  have h3 : halfRows N.toNat l 0 = rawRows N.toNat l l.length := by simp [halfRows]
  rw [h3] at h2
  refine Ev.step (fun k => ?_) h2
  simp only [graph_Neighbours.l0]
  rw [if_neg (by omega)]
  rfl
 | d + 1, j, h => by
  have hj : j < l.length := by omega
  obtain ⟨h0, h1, ha⟩ := chk_ok hc
  obtain ⟨f0, f1, f2, f3⟩ := ha j hj
  have ih := nb_l0 N l hl hc d (j + 1) (by omega)
  by_cases he : l[j].f0 = l[j].f1
  ·rw [raw_same _ _ _ hj he] at ih
   refine Ev.step (fun k => ?_) ih
   simp only [graph_Neighbours.l0]
   rw [if_pos (by omega), if_pos (by omega), if_pos (by omega), rd_arc l j hj, if_pos he, wrap_succ (by omega)]
  ·obtain ⟨a, hA⟩ := Int.eq_ofNat_of_zero_le f0
   obtain ⟨b, hB⟩ := Int.eq_ofNat_of_zero_le f2
   have hab : a ≠ b := fun e => he (by rw [hA, hB, e])
   have ran := rawNb_length l (a : Int) j
   have rbn := rawNb_length l (b : Int) j
   have hlen1 : ((rawRows N.toNat l j).set a (rawNb l (a : Int) j ++ [(b : Int)])).length = N.toNat := by rw [List.length_set, rawRows_length]
   have hgb : ((rawRows N.toNat l j).set a (rawNb l (a : Int) j ++ [(b : Int)]))[b]'(by rw [hlen1]; omega) = rawNb l (b : Int) j := by
    rw [List.getElem_set_ne hab, rawRows_get]
   rw [← raw_succ _ _ _ a b hj hA hB hab (by omega) (by omega)] at ih
   refine Ev.step (fun k => ?_) ih
   simp only [graph_Neighbours.l0]
   rw [if_pos (by omega), if_pos (by omega), if_pos (by omega), rd_arc l j hj, if_neg he, if_pos f0, if_pos (by rw [rawRows_length]; omega), hA, hB, rd_row _ a (by rw [rawRows_length]; omega), rawRows_get, if_pos (by omega)]
   simp only [Option.bind_some, show ((a : Int)).toNat = a by omega, show ((b : Int)).toNat = b by omega]
   rw [if_pos (by omega), if_pos (by rw [rawRows_length]; omega), rd_row _ b (by rw [hlen1]; omega), hgb, if_pos (by omega), wrap_succ (by omega)]
theorem rawRows_zero (n : Nat) (l : List S58) : List.replicate n ([] : List Int) = rawRows n l 0 := by
 apply List.ext_getElem
 ·simp [rawRows]
 ·intro v h1 h2
  rw [rawRows_get]
  simp [rawNb]
theorem graph_Neighbours.ev (N : Int) (l : List S58) (hl : l.length < 1000000000000) : Ev (fun k => graph_Neighbours.f k N l) (neighS N l) := by
 unfold graph_Neighbours.f neighS
 refine Ev.bind (graph_Check.ev N l hl) ?_
 by_cases h : chk N l = 0
 ·obtain ⟨h0, h1, _⟩ := chk_ok h
  simp only [if_pos h, if_pos h0, if_pos (show N.toNat ≤ 11728124029610 by omega), rawRows_zero N.toNat l]
  exact nb_l0 N l hl h l.length 0 (by omega)
 ·simp only [if_neg h]
  exact Ev.now _
def Adj (l : List S58) (u v : Nat) : Prop := u ≠ v ∧ ∃ a ∈ l, (a.f0 = (u : Int) ∧ a.f1 = (v : Int)) ∨ (a.f1 = (u : Int) ∧ a.f0 = (v : Int))
theorem Adj.symm {l : List S58} (u v : Nat) (h : Adj l u v) : Adj l v u := by
 obtain ⟨hne, a, ha, h⟩ := h
 exact ⟨fun e => hne e.symm, a, ha, h.elim (fun h => .inr ⟨h.2, h.1⟩) (fun h => .inl ⟨h.2, h.1⟩)⟩
theorem mem_rawNb {l : List S58} {v x : Int} : ∀ j, j ≤ l.length → (x ∈ rawNb l v j ↔ x ≠ v ∧ ∃ (i : Nat) (hi : i < l.length), i < j ∧ ((l[i].f0 = v ∧ l[i].f1 = x) ∨ (l[i].f1 = v ∧ l[i].f0 = x)))
 | 0, _ => by
  constructor
  ·intro h; cases h
  ·rintro ⟨_, i, _, hi, _⟩; omega
 | j + 1, h => by
  have hj : j < l.length := by omega
  have ih := mem_rawNb (l := l) (v := v) (x := x) j (by omega)
  rw [rawNb, getD_arc l j hj, List.mem_append, List.mem_append, ih]
  have e1 : x ∈ (if l[j].f0 = v ∧ ¬ l[j].f1 = v then [l[j].f1] else []) ↔ (l[j].f0 = v ∧ l[j].f1 = x ∧ x ≠ v) := by
   split
   ·rename_i hc
    rw [List.mem_singleton]
    exact ⟨fun e => ⟨hc.1, e.symm, by rw [e]; exact hc.2⟩, fun e => e.2.1.symm⟩
   ·rename_i hc
    constructor
    ·intro h; cases h
    ·rintro ⟨h1, h2, h3⟩
     exact absurd ⟨h1, by rw [h2]; exact h3⟩ hc
  have e2 : x ∈ (if l[j].f1 = v ∧ ¬ l[j].f0 = v then [l[j].f0] else []) ↔ (l[j].f1 = v ∧ l[j].f0 = x ∧ x ≠ v) := by
   split
   ·rename_i hc
    rw [List.mem_singleton]
    exact ⟨fun e => ⟨hc.1, e.symm, by rw [e]; exact hc.2⟩, fun e => e.2.1.symm⟩
   ·rename_i hc
    constructor
    ·intro h; cases h
    ·rintro ⟨h1, h2, h3⟩
     exact absurd ⟨h1, by rw [h2]; exact h3⟩ hc
  rw [e1, e2]
  constructor
  ·rintro (⟨hne, i, hi, hij, hc⟩ | ⟨h1, h2, h3⟩ | ⟨h1, h2, h3⟩)
   ·exact ⟨hne, i, hi, by omega, hc⟩
   ·exact ⟨h3, j, hj, by omega, .inl ⟨h1, h2⟩⟩
   ·exact ⟨h3, j, hj, by omega, .inr ⟨h1, h2⟩⟩
  ·rintro ⟨hne, i, hi, hij, hc⟩
   by_cases e : i = j
   ·subst e
    rcases hc with hc | hc
    ·exact .inr (.inl ⟨hc.1, hc.2, hne⟩)
    ·exact .inr (.inr ⟨hc.1, hc.2, hne⟩)
   ·exact .inl ⟨hne, i, hi, by omega, hc⟩
theorem mem_nbS {l : List S58} {u x : Nat} : (x : Int) ∈ nbS l (u : Int) ↔ Adj l u x := by
 unfold nbS
 rw [mem_setOf, mem_rawNb _ (Nat.le_refl _)]
 constructor
 ·rintro ⟨hne, i, hi, _, hc⟩
  exact ⟨fun e => hne (by rw [e]), l[i], List.getElem_mem hi, hc⟩
 ·rintro ⟨hne, a, ha, hc⟩
  obtain ⟨i, hi, rfl⟩ := List.mem_iff_getElem.1 ha
  exact ⟨fun e => hne (by omega), i, hi, hi, hc⟩
theorem nbS_nat {N : Int} {l : List S58} (hc : chk N l = 0) {v x : Int} (h : x ∈ nbS l v) : ∃ y : Nat, x = (y : Int) ∧ y < N.toNat := by
 unfold nbS at h
 rw [mem_setOf, mem_rawNb _ (Nat.le_refl _)] at h
 obtain ⟨_, i, hi, _, hcc⟩ := h
 obtain ⟨h0, h1, ha⟩ := chk_ok hc
 obtain ⟨f0, f1, f2, f3⟩ := ha i hi
 rcases hcc with ⟨_, e⟩ | ⟨_, e⟩
 ·exact ⟨x.toNat, by omega, by omega⟩
 ·exact ⟨x.toNat, by omega, by omega⟩
def stM (l : List S58) : Nat → Mat
 | 0 => fun _ _ => false
 | j + 1 => if (l.getD j z58).f0 = (l.getD j z58).f1 then stM l j else mset (mset (stM l j) (l.getD j z58).f0.toNat (l.getD j z58).f1.toNat) (l.getD j z58).f1.toNat (l.getD j z58).f0.toNat
def flags (n : Nat) : Array Value := madeCells #[.bool false] n
theorem infoBool : (Try.prog.info? 4).map (fun i => (i.zero, i.size, i.bytes)) = some (some (.bool false), 1, 1) := by kernel_rfl
theorem infoRow : (Try.prog.info? 83).map (fun i => (i.zero, i.size, i.bytes)) = some (some (.slice none 0 0), 1, 24) := by kernel_rfl
theorem run_flags (n : Nat) (hn : n ≤ 20000) (w : World) : (Instr.makeSlice 83 (.int .i64 (n : Int)) (.int .i64 (n : Int))).run Try.prog w = .ok (.slice (some ⟨w.heap.size, 0, none⟩) n n) (w.alloc (.cells (flags n) 4 (0, 0))) := by
 obtain ⟨i, h1, hh⟩ := Option.map_eq_some_iff.1 infoBool
 simp only [Prod.mk.injEq] at hh
 obtain ⟨h2, h3, h4⟩ := hh
 have := run_makeSlice (P := Try.prog) w 83 4 i (.bool false) Try.underlying83 h1 h2 .i64 .i64 n n (by omega) (by omega) (by rw [h3]; simp; omega) (by rw [h4]; omega) (by omega)
 rw [this, h3]
 simp [flags, Value.cells]
theorem flags_get {n j : Nat} (h : j < n) : (flags n)[j]? = some (.bool false) := by
 unfold flags madeCells
 simp [h, Nat.mod_one]
structure StFr (s : Nat) (wr : World) (n : Nat) (A : Option Addr) (len c : Nat) (rv : Value) : Prop where
 k0 : wr.heap[s]? = some (.cells #[.int .i64 (n : Int), .slice A len c] 24 (0, 0))
 k1 : wr.heap[s + 1]? = some (.cells #[.slice none 0 0, .slice none 0 0] 111 (0, 0))
 k2 : wr.heap[s + 1 + 1]? = some (.cells (flags n) 4 (0, 0))
 k3 : wr.heap[s + 1 + 1 + 1]? = some (.cells #[rv, .slice (some ⟨s + 1 + 1, 0, none⟩) n n] 111 (0, 0))
theorem sb_lt {w : World} {b : Nat} {o : Obj} (h : w.heap[b]? = some o) : b < w.heap.size := (Array.getElem?_eq_some_iff.1 h).1
theorem StFr.keep {s : Nat} {wr w1 : World} {n : Nat} {A : Option Addr} {len c : Nat} {rv : Value} (h : StFr s wr n A len c rv) (hk : ∀ k, s ≤ k → k ≤ s + 3 → w1.heap[k]? = wr.heap[k]?) : StFr s w1 n A len c rv :=
 ⟨(hk _ (by omega) (by omega)).trans h.k0, (hk _ (by omega) (by omega)).trans h.k1, (hk _ (by omega) (by omega)).trans h.k2, (hk _ (by omega) (by omega)).trans h.k3⟩
theorem StFr.below {s : Nat} {wr w1 : World} {n : Nat} {A : Option Addr} {len c : Nat} {rv : Value} (h : StFr s wr n A len c rv) (hb : Below wr.heap.size wr w1) : StFr s w1 n A len c rv :=
 h.keep fun k _ h2 => hb.block k (by have := sb_lt h.k3; omega)
theorem StFr.drewF {s : Nat} {wr : World} {n : Nat} {A : Option Addr} {len c : Nat} {rv : Value} (h : StFr s wr n A len c rv) : StFr s wr.drew n A len c rv := ⟨h.k0, h.k1, h.k2, h.k3⟩
theorem StFr.far {s : Nat} {wr : World} {n : Nat} {A : Option Addr} {len c : Nat} {rv : Value} (h : StFr s wr n A len c rv) (a : Addr) (v : Value) (ha : s + 4 ≤ a.block) : StFr s (wr.setCell a v) n A len c rv :=
 h.keep fun k _ h2 => Below.heap_setCell wr a v k (by omega)
theorem sb_put {w : World} {b i : Nat} {cs : Array Value} {t : TypeId} {fr : Nat × Nat} (h : w.heap[b]? = some (.cells cs t fr)) (v : Value) : (w.setCell ⟨b, i, none⟩ v).heap[b]? = some (.cells (cs.setIfInBounds i v) t fr) := by
 simp [World.setCell, Array.getElem?_modify, h]
theorem StFr.put {s : Nat} {wr : World} {n : Nat} {A : Option Addr} {len c : Nat} {rv : Value} (h : StFr s wr n A len c rv) (v : Value) : StFr s (wr.setCell ⟨s + 1 + 1 + 1, 0, none⟩ v) n A len c v :=
 ⟨(Below.heap_setCell _ _ _ _ (by show s ≠ s + 1 + 1 + 1; omega)).trans h.k0, (Below.heap_setCell _ _ _ _ (by show s + 1 ≠ s + 1 + 1 + 1; omega)).trans h.k1, (Below.heap_setCell _ _ _ _ (by show s + 1 + 1 ≠ s + 1 + 1 + 1; omega)).trans h.k2, sb_put h.k3 v⟩
theorem alloc4 (w : World) (a b c d : Obj) : ((((w.alloc a).alloc b).alloc c).alloc d).heap[w.heap.size]? = some a ∧ ((((w.alloc a).alloc b).alloc c).alloc d).heap[w.heap.size + 1]? = some b ∧ ((((w.alloc a).alloc b).alloc c).alloc d).heap[w.heap.size + 1 + 1]? = some c ∧ ((((w.alloc a).alloc b).alloc c).alloc d).heap[w.heap.size + 1 + 1 + 1]? = some d := by
 show ((((w.heap.push a).push b).push c).push d)[w.heap.size]? = some a ∧ ((((w.heap.push a).push b).push c).push d)[w.heap.size + 1]? = some b ∧ ((((w.heap.push a).push b).push c).push d)[w.heap.size + 1 + 1]? = some c ∧ ((((w.heap.push a).push b).push c).push d)[w.heap.size + 1 + 1 + 1]? = some d
 refine ⟨?_, ?_, ?_, ?_⟩
 ·rw [Array.getElem?_push, if_neg (by simp only [Array.size_push]; omega), Array.getElem?_push, if_neg (by simp only [Array.size_push]; omega), Array.getElem?_push, if_neg (by simp only [Array.size_push]; omega), Array.getElem?_push, if_pos rfl]
 ·rw [Array.getElem?_push, if_neg (by simp only [Array.size_push]; omega), Array.getElem?_push, if_neg (by simp only [Array.size_push]; omega), Array.getElem?_push, if_pos (by simp only [Array.size_push])]
 ·rw [Array.getElem?_push, if_neg (by simp only [Array.size_push]; omega), Array.getElem?_push, if_pos (by simp only [Array.size_push])]
 ·rw [Array.getElem?_push, if_pos (by simp only [Array.size_push])]
theorem below_low {B B' : Nat} {w w1 : World} (h : Below B w w1) (hb : B' ≤ B) : Below B' w w1 := ⟨h.os, h.tape, h.output, h.size, fun k hk => h.block k (Nat.lt_of_lt_of_le hk hb)⟩
theorem below_put {B : Nat} {w w1 : World} (h : Below B w w1) (a : Addr) (v : Value) (ha : B ≤ a.block) : Below B w (w1.setCell a v) :=
 ⟨h.os, h.tape, h.output, by rw [setCell_size]; exact h.size, fun k hk => (Below.heap_setCell w1 a v k (by omega)).trans (h.block k hk)⟩
abbrev encS (n : Nat) (b : Nat) : Value := .slice (some ⟨b, 0, none⟩) n n
theorem fz_of_blk {w : World} {b j : Nat} {cs : Array Value} {t : TypeId} (h : w.heap[b]? = some (.cells cs t (0, 0))) : w.frozen? ⟨b, j, none⟩ = false := by simp [World.frozen?, h]
set_option maxHeartbeats 3200000 in
set_option maxRecDepth 100000 in
theorem Start.calls (n : Nat) (A : Option Addr) (c : Nat) (l : List S58) (w : World) (hr : Kd.C k58 w A l.length l) (hc : l.length ≤ c) (hn : n ≤ 20000) (hl : l.length < 100000000000) (hk : chk (n : Int) l = 0) :
  Calls Try.prog 62 #[.agg #[.int .i64 (n : Int), .slice A l.length c]] w fun e w' => Below w.heap.size w w' ∧ ((n = 0 ∧ ∃ b, e = .returned (.agg #[.slice none 0 0, .slice (some ⟨b, 0, none⟩) 0 0])) ∨
   ∃ R cap Gb rb, e = .returned (tabV R cap Gb n) ∧ n ≤ cap ∧ TbIs w' w.heap.size R rb Gb n (stM l l.length) (fun _ => false)) := by
 have HC0 := Aside0.mk hr
 obtain ⟨_, _, har⟩ := chk_ok hk
 have HAR := Aside0.mk har
 have hmk := run_flags n hn
 clear hr hk har
 go_enter Try.func62, Try.ntmps62
 go_wp2
 have HW0 : Aside0 (Below w.heap.size w ((((w.alloc (Obj.cells #[Value.int IntKind.i64 ↑n, Value.slice A l.length c] 24)).alloc (Obj.cells #[Value.slice none 0 0, Value.slice none 0 0] 111)).alloc (Obj.cells (flags n) 4)).alloc
   (Obj.cells #[Value.slice none 0 0, Value.slice (some { block := w.heap.size + 1 + 1, off := 0 }) n n] 111))) := ⟨((((Below.refl _ _).alloc (Nat.le_refl _) _).alloc (by simp) _).alloc (by simp; omega) _).alloc (by simp; omega) _⟩
 have HF0 : Aside0 (StFr w.heap.size ((((w.alloc (Obj.cells #[Value.int IntKind.i64 ↑n, Value.slice A l.length c] 24)).alloc (Obj.cells #[Value.slice none 0 0, Value.slice none 0 0] 111)).alloc (Obj.cells (flags n) 4)).alloc
   (Obj.cells #[Value.slice none 0 0, Value.slice (some { block := w.heap.size + 1 + 1, off := 0 }) n n] 111)) n A l.length c (.slice none 0 0)) := ⟨by
  obtain ⟨a0, a1, a2, a3⟩ := alloc4 w (Obj.cells #[Value.int IntKind.i64 ↑n, Value.slice A l.length c] 24) (Obj.cells #[Value.slice none 0 0, Value.slice none 0 0] 111) (Obj.cells (flags n) 4) (Obj.cells #[Value.slice none 0 0, Value.slice (some { block := w.heap.size + 1 + 1, off := 0 }) n n] 111)
  exact ⟨a0, a1, a2, a3⟩⟩
 generalize ((((w.alloc (Obj.cells #[Value.int IntKind.i64 ↑n, Value.slice A l.length c] 24)).alloc (Obj.cells #[Value.slice none 0 0, Value.slice none 0 0] 111)).alloc (Obj.cells (flags n) 4)).alloc
   (Obj.cells #[Value.slice none 0 0, Value.slice (some { block := w.heap.size + 1 + 1, off := 0 }) n n] 111)) = w0 at HW0 HF0 ⊢
 go_loopw [4] (fun i wr => ∃ (k : Nat) (bl : List Nat) (rv : Value), i = .int .i64 k ∧ k ≤ n ∧ Aside0 (StFr w.heap.size wr n A l.length c rv) ∧ Aside0 (bl.length = k ∧ bl.Nodup ∧ ∀ b ∈ bl, w.heap.size + 4 ≤ b ∧ wr.heap[b]? = some (.cells (flags n) 4 (0, 0))) ∧
  Aside0 (wr.ownsRow (w.heap.size + 4) 83 1 rv k (encs (encS n) bl) ∧ (k = 0 → rv = .slice none 0 0)) ∧ Aside0 (Below w.heap.size w wr)) (fun i _ => n - (intOf i).toNat)
 case atStart => exact ⟨0, [], _, rfl, Nat.zero_le _, HF0, ⟨rfl, List.nodup_nil, by simp⟩, ⟨own_nil _ _ _ _, fun _ => rfl⟩, HW0⟩
 case round =>
  clear HW0 HF0
  obtain ⟨k, bl, rv, rfl, hk, HF, HD, HO, HB⟩ := hrel
  have hc0 := (blk_cell HF.out.k0 0).trans rfl
  have hc1 := (blk_cell HF.out.k0 1).trans rfl
  have hc3 := (blk_cell HF.out.k3 0).trans rfl
  by_cases hlt : k < n
  ·skip
   have HNV : Aside0 (some (w.heap.size + 1 + 1 + 1) ≠ rv.ownBlock ∧ some w.heap.size ≠ rv.ownBlock) := ⟨⟨fun e => by have := own_base HO.out.1 _ e.symm; omega, fun e => by have := own_base HO.out.1 _ e.symm; omega⟩⟩
   go_upto_region 5 with (fail)
   refine s_ (fun w' => w'.cell? ⟨w.heap.size + 1 + 1 + 1, 0, none⟩ = some rv ∧ w'.cell? ⟨w.heap.size, 0, none⟩ = some (.int .i64 (n : Int))) [8] ⟨hc3, hc0⟩ (fun hHeld => ?_)
   have HDR : Aside0 (wr.drew.heap = wr.heap) := ⟨rfl⟩
   have HBD : Aside0 (Below (w.heap.size + 4) wr wr.drew ∧ Below w.heap.size w wr.drew) := ⟨below_drew (Below.refl _ _), below_drew HB.out⟩
   generalize wr.drew = wd at HDR HBD hHeld ⊢
   have HOW : Aside0 ((wd.alloc (.cells (flags n) 4 (0, 0))).ownsRow (w.heap.size + 4) 83 1 rv k (encs (encS n) bl)) := ⟨own_move HO.out.1 (fun q hq => (((Below.refl _ wd).alloc (Nat.le_refl _) (.cells (flags n) 4 (0, 0))).block q (by rw [HDR.out]; exact own_lt HO.out.1 q hq)).trans (by rw [HDR.out]))⟩
   have HBW : Aside0 (Below (w.heap.size + 4) wr (wd.alloc (.cells (flags n) 4 (0, 0)))) := ⟨HBD.out.1.alloc (by have := sb_lt HF.out.k3; rw [HDR.out]; omega) _⟩
   refine p_ 0 17 ?_
   refine t2_ 1 18 hHeld ?_
   refine p_ 2 19 ?_
   refine t2_ 3 20 hHeld ?_
   refine o_ 4 21 (fun K hK => ?_)
   refine value_ (w1 := ?_) (v := ?_) (by rfl) rfl ?_ ?_; rotate_left 2; (·go_simp; constructor; (·rfl); (·rfl))
   refine hK.out _ _ ⟨(World.cell?_alloc_lt _ _ _ (World.block_lt_of_cell? _ _ hHeld.1)).trans hHeld.1, (World.cell?_alloc_lt _ _ _ (World.block_lt_of_cell? _ _ hHeld.2)).trans hHeld.2⟩ (fun hHeld => ?_)
   clear hK K
   refine n_ 21 ?_
   have HH1 := Aside0.mk hHeld
   have HFQ : Aside0 ((wd.alloc (.cells (flags n) 4 (0, 0))).heap[wd.heap.size]? = some (.cells (flags n) 4 (0, 0))) := ⟨heap_alloc_new wd _⟩
   have HBQ : Aside0 (Below wd.heap.size wd (wd.alloc (.cells (flags n) 4 (0, 0)))) := ⟨(Below.refl _ wd).alloc (Nat.le_refl _) _⟩
   generalize wd.alloc (Obj.cells (flags n) 4) = wq at HOW HBW HH1 HFQ HBQ hHeld ⊢
   refine o_ 5 22 (fun K hK => ?_)
   refine value_ (w1 := ?_) (v := ?_) (by rfl) rfl ?_ ?_; rotate_left 2; (·go_simp; constructor; (·rfl); (·rfl))
   refine hK.out _ _ ⟨(World.cell?_alloc_lt _ _ _ (World.block_lt_of_cell? _ _ hHeld.1)).trans hHeld.1, (World.cell?_alloc_lt _ _ _ (World.block_lt_of_cell? _ _ hHeld.2)).trans hHeld.2⟩ (fun hHeld => ?_)
   clear hK K
   refine n_ 22 ?_
   refine o_ 6 23 (fun K hK => ?_)
   refine step_append_cells (w0 := wr) (W := wq) (w.heap.size + 4) (by rfl) (.tmp 18) (.tmp 22) 60 83 (.slice none 0 0) 1 24 rfl Try.underlying60 infoRow rfl (by decide) (by decide) rv k (encs (encS n) bl) [encS n wd.heap.size] rfl rfl rfl (by simp [Value.oneCell']) HOW.out HBW.out (by have := HBW.out.size; have := sb_lt HF.out.k3; omega) ?_ ?_
   (·omega)
   intro v6 w6 ho6 hb6 hg6 hat6
   obtain ⟨A6, c6, rfl⟩ := own_slice ho6
   have HO6 := Aside0.mk ho6
   have HB6 := Aside0.mk hb6
   have HG6 := Aside0.mk hg6
   clear ho6 hb6 hg6 hat6
   refine hK.out _ _ ⟨cell_grown HG6.out HH1.out.1 HNV.out.1, cell_grown HG6.out HH1.out.2 HNV.out.2⟩ (fun hHeld => ?_)
   clear hK K
   refine n_ 23 ?_
   refine p_ 7 24 ?_
   have HFW : Aside0 (StFr w.heap.size wq n A l.length c rv) := ⟨(HF.out.keep (w1 := wd) (fun k_ _ _ => by rw [HDR.out])).keep (fun k_ _ h2 => HBQ.out.block k_ (by have := sb_lt HF.out.k3; rw [HDR.out]; omega))⟩
   have HF6 : Aside0 (StFr w.heap.size w6 n A l.length c rv) := ⟨HF.out.keep (fun k_ _ h2 => HB6.out.block k_ (by omega))⟩
   have hcs6 := hHeld.1
   have hfs6 : w6.frozen? ⟨w.heap.size + 1 + 1 + 1, 0, none⟩ = false := fz_of_blk HF6.out.k3
   refine l_ 8 (fun K hK => ?_)
   refine skip_ (w1 := ?_) (by rfl) rfl ?_ ?_
   rotate_left; (·go_simp; rfl)
   refine hK.out _ _ ?_
   clear hK K
   refine d_ ?_
   have HF7 := Aside0.mk (HF6.out.put (.slice A6 (k + 1) c6))
   have HB7 := Aside0.mk ((HB.out.trans (below_low HB6.out (by omega))).trans (below_put (Below.refl w.heap.size w6) ⟨w.heap.size + 1 + 1 + 1, 0, none⟩ (.slice A6 (k + 1) c6) (by show _ ≤ w.heap.size + 1 + 1 + 1; omega)))
   have HO7 : Aside0 ((w6.setCell ⟨w.heap.size + 1 + 1 + 1, 0, none⟩ (.slice A6 (k + 1) c6)).ownsRow (w.heap.size + 4) 83 1 (.slice A6 (k + 1) c6) (k + 1) (encs (encS n) bl ++ [encS n wd.heap.size])) := ⟨own_move HO6.out (fun q hq => Below.heap_setCell _ _ _ _ (by have := own_base HO6.out q hq; show q ≠ w.heap.size + 1 + 1 + 1; omega))⟩
   have HD7 : Aside0 (∀ b, w.heap.size + 4 ≤ b → wq.heap[b]? = some (.cells (flags n) 4 (0, 0)) → (w6.setCell ⟨w.heap.size + 1 + 1 + 1, 0, none⟩ (.slice A6 (k + 1) c6)).heap[b]? = some (.cells (flags n) 4 (0, 0))) := ⟨fun b hb hq => by
    rw [Below.heap_setCell _ _ _ _ (by show b ≠ w.heap.size + 1 + 1 + 1; omega)]
    exact (HG6.out.block b (sb_lt hq) (own_ne HOW.out hq (by decide))).trans hq⟩
   clear hHeld hcs6 hfs6 hc0 hc1 hc3
   generalize w6.setCell ⟨w.heap.size + 1 + 1 + 1, 0, none⟩ (.slice A6 (k + 1) c6) = w7 at HF7 HB7 HO7 HD7 ⊢
   go_wp2
   go_roundw
   case rel =>
    refine ⟨k + 1, bl ++ [wd.heap.size], (.slice A6 (k + 1) c6), by go_num, by omega, HF7, ⟨by rw [List.length_append, HD.out.1]; rfl, ?_, fun b hb => ?_⟩, ⟨by rw [encs_append]; exact HO7.out, fun h => by omega⟩, HB7⟩
    ·rw [List.nodup_append]
     exact ⟨HD.out.2.1, by simp, fun a ha b hb => by
      have h1 := sb_lt (HD.out.2.2 a ha).2
      have h2 := HDR.out
      simp at hb
      rw [hb, h2]
      omega⟩
    ·rcases List.mem_append.1 hb with hb | hb
     ·have h1 := HD.out.2.2 b hb
      refine ⟨h1.1, HD7.out b h1.1 ((HBQ.out.block b (by rw [HDR.out]; exact sb_lt h1.2)).trans ?_)⟩
      rw [HDR.out]
      exact h1.2
     ·simp at hb
      subst hb
      have h1 : w.heap.size + 4 ≤ wd.heap.size := by have := sb_lt HF.out.k3; rw [HDR.out]; omega
      exact ⟨h1, HD7.out _ h1 HFQ.out⟩
   case measure => simp [intOf]; omega
  ·have hk2 : k = n := by omega
   subst hk2
   clear hmk
   by_cases hk0 : k = 0
   ·subst hk0
    have hl0 : l = [] := by
     cases hl1 : l with
     | nil => rfl
     | cons x q =>
      have h1 := HAR.out 0 (by rw [hl1]; simp)
      omega
    subst hl0
    have hrv := HO.out.2 rfl
    subst hrv
    have hd1 := (blk_cell HF.out.k1 0).trans rfl
    have hd2 := (blk_cell HF.out.k1 1).trans rfl
    have hd3 := (blk_cell HF.out.k3 1).trans rfl
    have hf1 : wr.frozen? ⟨w.heap.size + 1, 0, none⟩ = false := fz_of_blk HF.out.k1
    have hf2 : wr.frozen? ⟨w.heap.size + 1, 1, none⟩ = false := fz_of_blk HF.out.k1
    go_wp2
    obtain ⟨wo, hwo⟩ : ∃ q, q = wr := ⟨_, rfl⟩
    subst hwo
    go_loopw [5] (fun i wr => i = .int .i64 0 ∧ wr = wo) (fun _ _ => 0)
    case atStart => exact ⟨rfl, rfl⟩
    case round =>
     obtain ⟨rfl, rfl⟩ := hrel
     go_wp2
     refine bodyPost_ret (results_cell_row rfl _ _ (w.heap.size + 1) 111 #[.slice none 0 0, .slice (some ⟨w.heap.size + 1 + 1, 0, none⟩) 0 0] (0, 0) _ rfl (sb_put (sb_put HF.out.k1 _) _) Try.underlying111 rfl (by kernel_rfl)) rfl ?_
     exact ⟨below_put (below_put HB.out _ _ (Nat.le_succ _)) _ _ (Nat.le_succ _), .inl ⟨_, rfl⟩⟩
   ·have hnp : 0 < k := by omega
    obtain ⟨Ao, cap, rfl⟩ := own_slice HO.out.1
    have hcap : k ≤ cap := own_le HO.out.1
    have hform : ∃ R, Ao = some ⟨R, 0, none⟩ := by
     rcases HO.out.1.2 with ⟨_, hz⟩ | ⟨g, cap', cur, hv, _⟩
     ·exact absurd hz hk0
     ·injection hv with h1
      exact ⟨g, h1⟩
    obtain ⟨R, rfl⟩ := hform
    have hty := own_typed HO.out.1 R rfl
    have hRb := own_base HO.out.1 R rfl
    have hbl : ∀ i, i < k → bl[i]? = some (bl.getD i 0) := fun i hi => by simp [List.getElem?_eq_getElem (show i < bl.length by have := HD.out.1; omega)]
    have hbm : ∀ i, i < k → w.heap.size + 4 ≤ bl.getD i 0 ∧ wr.heap[bl.getD i 0]? = some (.cells (flags k) 4 (0, 0)) := fun i hi => HD.out.2.2 _ (List.mem_of_getElem? (hbl i hi))
    have HT0 : Aside0 (TbIs wr w.heap.size R (fun i => bl.getD i 0) (w.heap.size + 1 + 1) k (stM l 0) (fun _ => false)) := ⟨by
     refine ⟨fun i hi => ?_, fun i hi j hj => ?_, fun i hi => ?_, fun i j hi hj e => ?_, fun i hi => ⟨fun e => ?_, fun e => ?_⟩, ?_, by omega, fun i hi => ?_, fun i hi j => fz_of_blk (hbm i hi).2, fun j => fz_of_blk HF.out.k2, ⟨own_lt HO.out.1 R rfl, sb_lt HF.out.k2⟩, fun i hi => sb_lt (hbm i hi).2⟩
     ·have h1 := (own_at_of (d := 0) HO.out.1 (i : Int) (by omega) (by omega)).1
      rw [Int.toNat_natCast] at h1
      rw [h1]
      simp [rdOf, encS]
     ·exact (blk_cell (hbm i hi).2 j).trans (flags_get hj)
     ·exact (blk_cell HF.out.k2 i).trans (flags_get hi)
     ·have h1 : bl[i]? = bl[j]? := by rw [hbl i hi, hbl j hj]; exact congrArg some e
      exact (List.getElem?_inj (by have := HD.out.1; omega) HD.out.2.1).1 h1
     ·obtain ⟨cells, hc⟩ := hty
      have h2 := (hbm i hi).2
      have e' : bl.getD i 0 = R := e
      rw [e', hc] at h2
      injection h2 with h2
      injection h2 with _ h3
      exact absurd h3 (by decide)
     ·have h1 := (hbm i hi).1
      have e' : bl.getD i 0 = w.heap.size + 1 + 1 := e
      omega
     ·omega
     ·exact Nat.le_trans (by omega) (hbm i hi).1⟩
    have HRB : Aside0 (∀ i, i < k → w.heap.size + 4 ≤ (fun i => bl.getD i 0) i) := ⟨fun i hi => (hbm i hi).1⟩
    have HRR := Aside0.mk hRb
    clear hbl hbm hty
    generalize (fun i => bl.getD i 0) = rb at HT0 HRB
    have hll : l.length ≤ 100000000000 := Nat.le_of_lt hl
    go_wp2
    go_loopw [5] (fun i wr => ∃ j : Nat, i = .int .i64 j ∧ j ≤ l.length ∧ Aside0 (StFr w.heap.size wr k A l.length c (.slice (some ⟨R, 0, none⟩) k cap)) ∧ Aside0 (TbIs wr w.heap.size R rb (w.heap.size + 1 + 1) k (stM l j) (fun _ => false)) ∧ Aside0 (Below w.heap.size w wr)) (fun i _ => l.length - (intOf i).toNat)
    case atStart => exact ⟨0, rfl, Nat.zero_le _, HF, HT0, HB⟩
    case round =>
     clear hc0 hc1 hc3 HF HT0 HB HO HD
     obtain ⟨j, rfl, hj, HF, HT, HB⟩ := hrel
     have hc0 := (blk_cell HF.out.k0 0).trans rfl
     have hc1 := (blk_cell HF.out.k0 1).trans rfl
     have hc3 := (blk_cell HF.out.k3 0).trans rfl
     by_cases hjl : j < l.length
     ·obtain ⟨ad, rfl, hx0, hx1⟩ := at_T58 HC0.out (j : Int) (by omega) (by omega)
      replace hx0 := (HB.out.cell (World.block_lt_of_cell? w _ hx0)).trans hx0
      replace hx1 := (HB.out.cell (World.block_lt_of_cell? w _ hx1)).trans hx1
      have hrd : rd_T58 l (j : Int) = l.getD j z58 := rfl
      rw [hrd] at hx0 hx1
      have hxj : l.getD j z58 = l[j] := by simp [List.getElem?_eq_getElem hjl]
      obtain ⟨f0l, f0u, f1l, f1u⟩ := HAR.out j hjl
      rw [← hxj] at f0l f0u f1l f1u
      have HM1 := Aside0.mk (show stM l (j + 1) = if (l.getD j z58).f0 = (l.getD j z58).f1 then stM l j else mset (mset (stM l j) (l.getD j z58).f0.toNat (l.getD j z58).f1.toNat) (l.getD j z58).f1.toNat (l.getD j z58).f0.toNat from rfl)
      generalize l.getD j z58 = x at hx0 hx1 f0l f0u f1l f1u HM1
      obtain ⟨y0, y1⟩ := x
      simp only at hx0 hx1 f0l f0u f1l f1u HM1
      obtain ⟨u, rfl⟩ := Int.eq_ofNat_of_zero_le f0l
      obtain ⟨x, rfl⟩ := Int.eq_ofNat_of_zero_le f1l
      have hu : u < k := by omega
      have hx : x < k := by omega
      simp only [Int.toNat_natCast] at hx0 hx1 HM1
      clear hrd hxj f0l f0u f1l f1u
      by_cases hux : u = x
      ·subst hux
       rw [if_pos rfl] at HM1
       go_wp2
       go_roundw
       case rel => exact ⟨j + 1, by go_num, by omega, ⟨HF.out.below ((Below.refl _ _).alloc (Nat.le_refl _) _)⟩, ⟨by rw [HM1.out]; exact HT.out.below ((Below.refl _ _).alloc (Nat.le_refl _) _)⟩, ⟨HB.out.alloc HB.out.size _⟩⟩
       case measure => simp [intOf]; omega
      ·have hux2 : ¬ (u : Int) = (x : Int) := by omega
       rw [if_neg hux2] at HM1
       go_upto_region 11 with (fail)
       have HF1 : Aside0 (StFr w.heap.size (wr.alloc (Obj.cells #[Value.int IntKind.i64 ↑u, Value.int IntKind.i64 ↑x] 58)) k (some ad) l.length c (.slice (some ⟨R, 0, none⟩) k cap)) := ⟨HF.out.below ((Below.refl _ _).alloc (Nat.le_refl _) _)⟩
       have HT1 : Aside0 (TbIs (wr.alloc (Obj.cells #[Value.int IntKind.i64 ↑u, Value.int IntKind.i64 ↑x] 58)) w.heap.size R rb (w.heap.size + 1 + 1) k (stM l j) (fun _ => false)) := ⟨HT.out.below ((Below.refl _ _).alloc (Nat.le_refl _) _)⟩
       have HB1 : Aside0 (Below w.heap.size w (wr.alloc (Obj.cells #[Value.int IntKind.i64 ↑u, Value.int IntKind.i64 ↑x] 58))) := ⟨HB.out.alloc HB.out.size _⟩
       have HK1 : Aside0 ((wr.alloc (Obj.cells #[Value.int IntKind.i64 ↑u, Value.int IntKind.i64 ↑x] 58)).heap[wr.heap.size]? = some (.cells #[Value.int IntKind.i64 ↑u, Value.int IntKind.i64 ↑x] 58 (0, 0))) := ⟨heap_alloc_new wr _⟩
       have HNE : Aside0 (w.heap.size + 4 ≤ wr.heap.size ∧ ∀ i, i < k → wr.heap.size ≠ rb i) := ⟨⟨by have := sb_lt HF.out.k3; omega, fun i hi => by have := HT.out.tops i hi; omega⟩⟩
       have HNR : Aside0 (∀ i, i < k → w.heap.size + 4 ≤ rb i) := HRB
       generalize wr.alloc (Obj.cells #[Value.int IntKind.i64 ↑u, Value.int IntKind.i64 ↑x] 58) = wq at HF1 HT1 HB1 HK1 ⊢
       clear hc0 hc1 hc3 hx0 hx1 HF HT HB
       generalize wr.heap.size = b6 at HK1 HNE ⊢
       refine s_ (fun w' => w'.cell? ⟨w.heap.size + 1 + 1 + 1, 0, none⟩ = some (.slice (some ⟨R, 0, none⟩) k cap) ∧ w'.cell? ⟨b6, 0, none⟩ = some (.int .i64 (u : Int)) ∧ w'.cell? ⟨R, u, none⟩ = some (.slice (some ⟨rb u, 0, none⟩) k k) ∧ w'.cell? ⟨b6, 1, none⟩ = some (.int .i64 (x : Int))) [9] ⟨(blk_cell HF1.out.k3 0).trans rfl, (blk_cell HK1.out 0).trans rfl, HT1.out.row u hu, (blk_cell HK1.out 1).trans rfl⟩ (fun hHeld => ?_)
       have HFd := Aside0.mk HF1.out.drewF
       have HTd := Aside0.mk HT1.out.drew
       have HBd := Aside0.mk (below_drew HB1.out)
       have HKd : Aside0 (wq.drew.heap[b6]? = some (.cells #[Value.int IntKind.i64 ↑u, Value.int IntKind.i64 ↑x] 58 (0, 0))) := ⟨HK1.out⟩
       generalize wq.drew = da at HFd HTd HBd HKd hHeld ⊢
       refine p_ 0 42 ?_
       refine t4_ 1 43 hHeld ?_
       refine p_ 2 44 ?_
       refine t4_ 3 45 hHeld ?_
       refine p_ 4 46 ?_
       refine t4_ 5 47 hHeld ?_
       refine p_ 6 48 ?_
       refine t4_ 7 49 hHeld ?_
       refine p_ 8 50 ?_
       have hcs_ : da.cell? ⟨rb u, x, none⟩ = _ := HTd.out.cel u hu x hx
       have hfs_ : da.frozen? ⟨rb u, x, none⟩ = false := HTd.out.frz u hu x
       refine l_ 9 (fun K hK => ?_)
       refine skip_ (w1 := ?_) (by rfl) rfl ?_ ?_
       rotate_left; (·go_simp; rfl)
       refine hK.out _ _ ?_
       clear hK K hHeld hcs_ hfs_
       refine d_ ?_
       have HF2 := Aside0.mk (HFd.out.far ⟨rb u, x, none⟩ (.bool true) (HNR.out u hu))
       have HT2 := Aside0.mk (HTd.out.setRow hu hx)
       have HB2 := Aside0.mk (below_put HBd.out ⟨rb u, x, none⟩ (.bool true) (by have := HNR.out u hu; show _ ≤ rb u; omega))
       have HK2 : Aside0 ((da.setCell ⟨rb u, x, none⟩ (.bool true)).heap[b6]? = some (.cells #[Value.int IntKind.i64 ↑u, Value.int IntKind.i64 ↑x] 58 (0, 0))) := ⟨(Below.heap_setCell _ _ _ _ (HNE.out.2 u hu)).trans HKd.out⟩
       generalize da.setCell ⟨rb u, x, none⟩ (.bool true) = ws at HF2 HT2 HB2 HK2 ⊢
       clear HF1 HT1 HB1 HK1 HFd HTd HBd HKd
       go_upto_region 12 with (fail)
       refine s_ (fun w' => w'.cell? ⟨w.heap.size + 1 + 1 + 1, 0, none⟩ = some (.slice (some ⟨R, 0, none⟩) k cap) ∧ w'.cell? ⟨b6, 1, none⟩ = some (.int .i64 (x : Int)) ∧ w'.cell? ⟨R, x, none⟩ = some (.slice (some ⟨rb x, 0, none⟩) k k) ∧ w'.cell? ⟨b6, 0, none⟩ = some (.int .i64 (u : Int))) [9] ⟨(blk_cell HF2.out.k3 0).trans rfl, (blk_cell HK2.out 1).trans rfl, HT2.out.row x hx, (blk_cell HK2.out 0).trans rfl⟩ (fun hHeld => ?_)
       have HFd := Aside0.mk HF2.out.drewF
       have HTd := Aside0.mk HT2.out.drew
       have HBd := Aside0.mk (below_drew HB2.out)
       have HKd : Aside0 (ws.drew.heap[b6]? = some (.cells #[Value.int IntKind.i64 ↑u, Value.int IntKind.i64 ↑x] 58 (0, 0))) := ⟨HK2.out⟩
       generalize ws.drew = db at HFd HTd HBd HKd hHeld ⊢
       refine p_ 0 51 ?_
       refine t4_ 1 52 hHeld ?_
       refine p_ 2 53 ?_
       refine t4_ 3 54 hHeld ?_
       refine p_ 4 55 ?_
       refine t4_ 5 56 hHeld ?_
       refine p_ 6 57 ?_
       refine t4_ 7 58 hHeld ?_
       refine p_ 8 59 ?_
       have hcs_ : db.cell? ⟨rb x, u, none⟩ = _ := HTd.out.cel x hx u hu
       have hfs_ : db.frozen? ⟨rb x, u, none⟩ = false := HTd.out.frz x hx u
       refine l_ 9 (fun K hK => ?_)
       refine skip_ (w1 := ?_) (by rfl) rfl ?_ ?_
       rotate_left; (·go_simp; rfl)
       refine hK.out _ _ ?_
       clear hK K hHeld hcs_ hfs_
       refine d_ ?_
       have HF3 := Aside0.mk (HFd.out.far ⟨rb x, u, none⟩ (.bool true) (HNR.out x hx))
       have HT3 := Aside0.mk (HTd.out.setRow hx hu)
       have HB3 := Aside0.mk (below_put HBd.out ⟨rb x, u, none⟩ (.bool true) (by have := HNR.out x hx; show _ ≤ rb x; omega))
       generalize db.setCell ⟨rb x, u, none⟩ (.bool true) = wt at HF3 HT3 HB3 ⊢
       go_wp2
       go_roundw
       case rel => exact ⟨j + 1, by go_num, by omega, HF3, ⟨by rw [HM1.out]; exact HT3.out⟩, HB3⟩
       case measure => simp [intOf]; omega
     ·have hj2 : j = l.length := by omega
      subst hj2
      have hd1 := (blk_cell HF.out.k1 0).trans rfl
      have hd2 := (blk_cell HF.out.k1 1).trans rfl
      have hd3 := (blk_cell HF.out.k3 1).trans rfl
      have hf1 : wr.frozen? ⟨w.heap.size + 1, 0, none⟩ = false := fz_of_blk HF.out.k1
      have hf2 : wr.frozen? ⟨w.heap.size + 1, 1, none⟩ = false := fz_of_blk HF.out.k1
      have HNR : Aside0 (∀ i, i < k → w.heap.size + 4 ≤ rb i) := HRB
      go_wp2
      refine bodyPost_ret (results_cell_row rfl _ _ (w.heap.size + 1) 111 #[.slice (some ⟨R, 0, none⟩) k cap, .slice (some ⟨w.heap.size + 1 + 1, 0, none⟩) k k] (0, 0) _ rfl (sb_put (sb_put HF.out.k1 _) _) Try.underlying111 rfl (by kernel_rfl)) rfl ?_
      refine ⟨below_put (below_put HB.out _ _ (Nat.le_succ _)) _ _ (Nat.le_succ _), .inr ⟨R, cap, w.heap.size + 1 + 1, rb, rfl, hcap, ?_⟩⟩
      have hR4 := HT.out.top
      refine HT.out.keep (by rw [setCell_size, setCell_size]; exact Nat.le_refl _) ?_ ?_ (fun i hi => ?_)
      ·have h5 : R ≠ w.heap.size + 1 := by have := HRR.out; omega
       rw [Below.heap_setCell _ _ _ _ h5, Below.heap_setCell _ _ _ _ h5]
      ·have h5 : w.heap.size + 1 + 1 ≠ w.heap.size + 1 := by omega
       rw [Below.heap_setCell _ _ _ _ h5, Below.heap_setCell _ _ _ _ h5]
      ·have h5 : rb i ≠ w.heap.size + 1 := by have := HNR.out i hi; omega
       rw [Below.heap_setCell _ _ _ _ h5, Below.heap_setCell _ _ _ _ h5]
end Go.Proofs.Ytfnophaiamkmpaa.Print
