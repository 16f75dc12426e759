/- Several texts of this claim in one: HP37c, HKElimN. -/
import Derived.Test.YtfnophaiamkmpaaM4
import Derived.Test.YtfnophaiamkmpaaF84
import Derived.Test.YtfnophaiamkmpaaM2
namespace Go.Proofs.Ytfnophaiamkmpaa.Print
open Go.RowKit Go.Proofs.YtfnophaiamkmpaaW.PrintWords Go.Proofs.YtfnophaiamkmpaaW.PrintLast Go.Proofs.YtfnophaiamkmpaaW.PrintMore
set_option linter.unusedVariables false
set_option linter.unusedSimpArgs false
/-! ### Has, With -/
/-! ### Neighbours -/
def rawNb (l : List S58) (v : Int) : Nat → List Int
 | 0 => []
 | j + 1 => rawNb l v j ++ ((if (l.getD j z58).f0 = v ∧ ¬ (l.getD j z58).f1 = v then [(l.getD j z58).f1] else []) ++ (if (l.getD j z58).f1 = v ∧ ¬ (l.getD j z58).f0 = v then [(l.getD j z58).f0] else []))
theorem rawNb_length (l : List S58) (v : Int) : ∀ j, (rawNb l v j).length ≤ 2 * j
 | 0 => by simp [rawNb]
 | j + 1 => by
  have := rawNb_length l v j
  unfold rawNb
  rw [List.length_append, List.length_append]
  have a : (if (l.getD j z58).f0 = v ∧ ¬ (l.getD j z58).f1 = v then [(l.getD j z58).f1] else []).length ≤ 1 := by split <;> simp
  have b : (if (l.getD j z58).f1 = v ∧ ¬ (l.getD j z58).f0 = v then [(l.getD j z58).f0] else []).length ≤ 1 := by split <;> simp
  omega
def rawRows (n : Nat) (l : List S58) (j : Nat) : List (List Int) := (List.range n).map fun (v : Nat) => rawNb l (v : Int) j
theorem rawRows_length (n : Nat) (l : List S58) (j : Nat) : (rawRows n l j).length = n := by simp [rawRows]
theorem rawRows_get (n : Nat) (l : List S58) (j v : Nat) (h : v < (rawRows n l j).length) : (rawRows n l j)[v] = rawNb l (v : Int) j := by simp [rawRows]
def nbS (l : List S58) (v : Int) : List Int := setOf (rawNb l v l.length)
def nbRows (n : Nat) (l : List S58) : List (List Int) := (List.range n).map fun (v : Nat) => nbS l (v : Int)
theorem nbRows_length (n : Nat) (l : List S58) : (nbRows n l).length = n := by simp [nbRows]
theorem nbRows_get (n : Nat) (l : List S58) (v : Nat) (h : v < (nbRows n l).length) : (nbRows n l)[v] = nbS l (v : Int) := by simp [nbRows]
def neighS (N : Int) (l : List S58) : List (List Int) := if chk N l = 0 then nbRows N.toNat l else []
theorem raw_same (n : Nat) (l : List S58) (j : Nat) (hj : j < l.length) (he : l[j].f0 = l[j].f1) : rawRows n l (j + 1) = rawRows n l j := by
 unfold rawRows
 refine List.map_congr_left fun v _ => ?_
 have h1 : ¬ (l[j].f1 = (v : Int) ∧ ¬ l[j].f1 = (v : Int)) := fun h => h.2 h.1
 conv => lhs; rw [rawNb]
 rw [getD_arc l j hj, he, if_neg h1]
 exact List.append_nil _
theorem raw_succ (n : Nat) (l : List S58) (j a b : Nat) (hj : j < l.length) (ha : l[j].f0 = (a : Int)) (hb : l[j].f1 = (b : Int)) (hab : a ≠ b) (han : a < n) (hbn : b < n) :
  ((rawRows n l j).set a (rawNb l (a : Int) j ++ [(b : Int)])).set b (rawNb l (b : Int) j ++ [(a : Int)]) = rawRows n l (j + 1) := by
 apply List.ext_getElem
 ·simp [rawRows]
 ·intro v h1 h2
  rw [List.getElem_set, List.getElem_set, rawRows_get, rawRows_get]
  conv => rhs; unfold rawNb
  rw [getD_arc l j hj, ha, hb]
  by_cases e : b = v
  ·subst e
   have h3 : ¬ ((a : Int) = (b : Int) ∧ ¬ (b : Int) = (b : Int)) := fun h => h.2 rfl
   have h4 : (b : Int) = (b : Int) ∧ ¬ (a : Int) = (b : Int) := ⟨rfl, by omega⟩
   rw [if_pos rfl, if_neg h3, if_pos h4, List.nil_append]
  ·rw [if_neg e]
   have h4 : ¬ ((b : Int) = (v : Int) ∧ ¬ (a : Int) = (v : Int)) := fun h => by omega
   rw [if_neg h4, List.append_nil]
   by_cases e2 : a = v
   ·subst e2
    have h3 : (a : Int) = (a : Int) ∧ ¬ (b : Int) = (a : Int) := ⟨rfl, by omega⟩
    rw [if_pos rfl, if_pos h3]
   ·have h3 : ¬ ((a : Int) = (v : Int) ∧ ¬ (b : Int) = (v : Int)) := fun h => by omega
    rw [if_neg e2, if_neg h3, List.append_nil]
def halfRows (n : Nat) (l : List S58) (v : Nat) : List (List Int) := (nbRows n l).take v ++ (rawRows n l l.length).drop v
theorem halfRows_length (n : Nat) (l : List S58) (v : Nat) (h : v ≤ n) : (halfRows n l v).length = n := by
 unfold halfRows
 rw [List.length_append, List.length_take, List.length_drop, nbRows_length, rawRows_length]
 omega
theorem halfRows_get (n : Nat) (l : List S58) (v : Nat) (h : v < n) (h2 : v < (halfRows n l v).length) : (halfRows n l v)[v] = rawNb l (v : Int) l.length := by
 have hl : ((nbRows n l).take v).length = v := by rw [List.length_take, nbRows_length]; omega
 have h3 : (halfRows n l v)[v]? = some (rawNb l (v : Int) l.length) := by
  unfold halfRows
  rw [List.getElem?_append_right (by omega), hl, Nat.sub_self, List.getElem?_drop, Nat.add_zero, List.getElem?_eq_getElem (by rw [rawRows_length]; exact h), rawRows_get]
 exact (List.getElem?_eq_some_iff.1 h3).2
theorem halfRows_succ (n : Nat) (l : List S58) (v : Nat) (h : v < n) : (halfRows n l v).set v (nbS l (v : Int)) = halfRows n l (v + 1) := by
 unfold halfRows
 have hl : ((nbRows n l).take v).length = v := by rw [List.length_take, nbRows_length]; omega
 have hd : v < (rawRows n l l.length).length := by rw [rawRows_length]; exact h
 have ht : v < (nbRows n l).length := by rw [nbRows_length]; exact h
 rw [List.set_append_right _ _ (by omega), hl, Nat.sub_self, List.drop_eq_getElem_cons hd, List.set_cons_zero, List.take_succ_eq_append_getElem ht, List.append_assoc, nbRows_get]
 rfl
theorem nb_l1 (N : Int) (l : List S58) (hl : l.length < 1000000000000) (hN : N ≤ 1048576) (h0 : 0 ≤ N) : ∀ d v : Nat, v + d = N.toNat → Ev (fun k => graph_Neighbours.l1 k (halfRows N.toNat l v) N (v : Int)) (nbRows N.toNat l)
 | 0, v, h => by
  have hv : v = N.toNat := by omega
  subst hv
  have : halfRows N.toNat l N.toNat = nbRows N.toNat l := by
   unfold halfRows
   rw [List.take_of_length_le (by rw [nbRows_length]; exact Nat.le_refl _), List.drop_of_length_le (by rw [rawRows_length]; exact Nat.le_refl _), List.append_nil]
  rw [this]
  refine Ev.step1 fun k => ?_
  simp only [graph_Neighbours.l1]
  rw [if_neg (by omega)]
 | d + 1, v, h => by
  have hv : v < N.toNat := by omega
  have ih := nb_l1 N l hl hN h0 d (v + 1) (by omega)
  have hlen := halfRows_length N.toNat l v (by omega)
  have hrl := rawNb_length l (v : Int) l.length
  rw [← halfRows_succ _ _ _ hv] at ih
  refine Ev.step (fun k => ?_) ih
  simp only [graph_Neighbours.l1]
  rw [if_pos (by omega), if_pos (by omega), if_pos (by rw [hlen]; omega), rd_row _ v (by rw [hlen]; exact hv), halfRows_get _ _ _ hv]
  unfold sets_Of.f
  rw [if_pos (by omega)]
  simp only [Option.bind_some, show ((v : Int)).toNat = v by omega, wrap_succ (show v < 1000000000000000 by omega)]
  rfl
theorem nb_l0 (N : Int) (l : List S58) (hl : l.length < 1000000000000) (hc : chk N l = 0) : ∀ d j : Nat, j + d = l.length → Ev (fun k => graph_Neighbours.l0 k (rawRows N.toNat l j) l (l.length : Int) (j : Int) N l) (nbRows N.toNat l)
 | 0, j, h => by
  obtain ⟨h0, h1, _⟩ := chk_ok hc
  have hj : j = l.length := by omega
  subst hj
  have h2 := nb_l1 N l hl h1 h0 N.toNat 0 (by omega)
  have h3 : halfRows N.toNat l 0 = rawRows N.toNat l l.length := by simp [halfRows]
  rw [h3] at h2
  refine Ev.step (fun k => ?_) h2
  simp only [graph_Neighbours.l0]
  rw [if_neg (by omega)]
  rfl
 | d + 1, j, h => by
  have hj : j < l.length := by omega
  obtain ⟨h0, h1, ha⟩ := chk_ok hc
  obtain ⟨f0, f1, f2, f3⟩ := ha j hj
  have ih := nb_l0 N l hl hc d (j + 1) (by omega)
  by_cases he : l[j].f0 = l[j].f1
  ·rw [raw_same _ _ _ hj he] at ih
   refine Ev.step (fun k => ?_) ih
   simp only [graph_Neighbours.l0]
   rw [if_pos (by omega), if_pos (by omega), if_pos (by omega), rd_arc l j hj, if_pos he, wrap_succ (by omega)]
  ·obtain ⟨a, hA⟩ := Int.eq_ofNat_of_zero_le f0
   obtain ⟨b, hB⟩ := Int.eq_ofNat_of_zero_le f2
   have hab : a ≠ b := fun e => he (by rw [hA, hB, e])
   have ran := rawNb_length l (a : Int) j
   have rbn := rawNb_length l (b : Int) j
   have hlen1 : ((rawRows N.toNat l j).set a (rawNb l (a : Int) j ++ [(b : Int)])).length = N.toNat := by rw [List.length_set, rawRows_length]
   have hgb : ((rawRows N.toNat l j).set a (rawNb l (a : Int) j ++ [(b : Int)]))[b]'(by rw [hlen1]; omega) = rawNb l (b : Int) j := by
    rw [List.getElem_set_ne hab, rawRows_get]
   rw [← raw_succ _ _ _ a b hj hA hB hab (by omega) (by omega)] at ih
   refine Ev.step (fun k => ?_) ih
   simp only [graph_Neighbours.l0]
   rw [if_pos (by omega), if_pos (by omega), if_pos (by omega), rd_arc l j hj, if_neg he, if_pos f0, if_pos (by rw [rawRows_length]; omega), hA, hB, rd_row _ a (by rw [rawRows_length]; omega), rawRows_get, if_pos (by omega)]
   simp only [Option.bind_some, show ((a : Int)).toNat = a by omega, show ((b : Int)).toNat = b by omega]
   rw [if_pos (by omega), if_pos (by rw [rawRows_length]; omega), rd_row _ b (by rw [hlen1]; omega), hgb, if_pos (by omega), wrap_succ (by omega)]
theorem rawRows_zero (n : Nat) (l : List S58) : List.replicate n ([] : List Int) = rawRows n l 0 := by
 apply List.ext_getElem
 ·simp [rawRows]
 ·intro v h1 h2
  rw [rawRows_get]
  simp [rawNb]
theorem graph_Neighbours.ev (N : Int) (l : List S58) (hl : l.length < 1000000000000) : Ev (fun k => graph_Neighbours.f k N l) (neighS N l) := by
 unfold graph_Neighbours.f neighS
 refine Ev.bind (graph_Check.ev N l hl) ?_
 by_cases h : chk N l = 0
 ·obtain ⟨h0, h1, _⟩ := chk_ok h
  simp only [if_pos h, if_pos h0, if_pos (show N.toNat ≤ 11728124029610 by omega), rawRows_zero N.toNat l]
  exact nb_l0 N l hl h l.length 0 (by omega)
 ·simp only [if_neg h]
  exact Ev.now _
def Adj (l : List S58) (u v : Nat) : Prop := u ≠ v ∧ ∃ a ∈ l, (a.f0 = (u : Int) ∧ a.f1 = (v : Int)) ∨ (a.f1 = (u : Int) ∧ a.f0 = (v : Int))
theorem Adj.symm {l : List S58} (u v : Nat) (h : Adj l u v) : Adj l v u := by
 obtain ⟨hne, a, ha, h⟩ := h
 exact ⟨fun e => hne e.symm, a, ha, h.elim (fun h => .inr ⟨h.2, h.1⟩) (fun h => .inl ⟨h.2, h.1⟩)⟩
theorem mem_rawNb {l : List S58} {v x : Int} : ∀ j, j ≤ l.length → (x ∈ rawNb l v j ↔ x ≠ v ∧ ∃ (i : Nat) (hi : i < l.length), i < j ∧ ((l[i].f0 = v ∧ l[i].f1 = x) ∨ (l[i].f1 = v ∧ l[i].f0 = x)))
 | 0, _ => by
  constructor
  ·intro h; cases h
  ·rintro ⟨_, i, _, hi, _⟩; omega
 | j + 1, h => by
  have hj : j < l.length := by omega
  have ih := mem_rawNb (l := l) (v := v) (x := x) j (by omega)
  rw [rawNb, getD_arc l j hj, List.mem_append, List.mem_append, ih]
  have e1 : x ∈ (if l[j].f0 = v ∧ ¬ l[j].f1 = v then [l[j].f1] else []) ↔ (l[j].f0 = v ∧ l[j].f1 = x ∧ x ≠ v) := by
   split
   ·rename_i hc
    rw [List.mem_singleton]
    exact ⟨fun e => ⟨hc.1, e.symm, by rw [e]; exact hc.2⟩, fun e => e.2.1.symm⟩
   ·rename_i hc
    constructor
    ·intro h; cases h
    ·rintro ⟨h1, h2, h3⟩
     exact absurd ⟨h1, by rw [h2]; exact h3⟩ hc
  have e2 : x ∈ (if l[j].f1 = v ∧ ¬ l[j].f0 = v then [l[j].f0] else []) ↔ (l[j].f1 = v ∧ l[j].f0 = x ∧ x ≠ v) := by
   split
   ·rename_i hc
    rw [List.mem_singleton]
    exact ⟨fun e => ⟨hc.1, e.symm, by rw [e]; exact hc.2⟩, fun e => e.2.1.symm⟩
   ·rename_i hc
    constructor
    ·intro h; cases h
    ·rintro ⟨h1, h2, h3⟩
     exact absurd ⟨h1, by rw [h2]; exact h3⟩ hc
  rw [e1, e2]
  constructor
  ·rintro (⟨hne, i, hi, hij, hc⟩ | ⟨h1, h2, h3⟩ | ⟨h1, h2, h3⟩)
   ·exact ⟨hne, i, hi, by omega, hc⟩
   ·exact ⟨h3, j, hj, by omega, .inl ⟨h1, h2⟩⟩
   ·exact ⟨h3, j, hj, by omega, .inr ⟨h1, h2⟩⟩
  ·rintro ⟨hne, i, hi, hij, hc⟩
   by_cases e : i = j
   ·subst e
    rcases hc with hc | hc
    ·exact .inr (.inl ⟨hc.1, hc.2, hne⟩)
    ·exact .inr (.inr ⟨hc.1, hc.2, hne⟩)
   ·exact .inl ⟨hne, i, hi, by omega, hc⟩
theorem mem_nbS {l : List S58} {u x : Nat} : (x : Int) ∈ nbS l (u : Int) ↔ Adj l u x := by
 unfold nbS
 rw [mem_setOf, mem_rawNb _ (Nat.le_refl _)]
 constructor
 ·rintro ⟨hne, i, hi, _, hc⟩
  exact ⟨fun e => hne (by rw [e]), l[i], List.getElem_mem hi, hc⟩
 ·rintro ⟨hne, a, ha, hc⟩
  obtain ⟨i, hi, rfl⟩ := List.mem_iff_getElem.1 ha
  exact ⟨fun e => hne (by omega), i, hi, hi, hc⟩
theorem nbS_nat {N : Int} {l : List S58} (hc : chk N l = 0) {v x : Int} (h : x ∈ nbS l v) : ∃ y : Nat, x = (y : Int) ∧ y < N.toNat := by
 unfold nbS at h
 rw [mem_setOf, mem_rawNb _ (Nat.le_refl _)] at h
 obtain ⟨_, i, hi, _, hcc⟩ := h
 obtain ⟨h0, h1, ha⟩ := chk_ok hc
 obtain ⟨f0, f1, f2, f3⟩ := ha i hi
 rcases hcc with ⟨_, e⟩ | ⟨_, e⟩
 ·exact ⟨x.toNat, by omega, by omega⟩
 ·exact ⟨x.toNat, by omega, by omega⟩
def Agree (b1 b2 : Nat) (w W : World) : Prop := ∀ k, b1 ≤ k → k < b2 → W.heap[k]? = w.heap[k]?
theorem near_row {w : World} {b1 : Nat} {An : Option Addr} {cn : Nat} {near : List (List Int)} (hs : Kd.S (Kd.slice 3 (Kd.int .i64)) 25 w b1 (fun _ => True) (.slice An near.length cn) near) {v : Nat} (hv : v < near.length) :
  ∃ ad Ai xc, An = some ad ∧ (near.getD v []).length ≤ xc ∧ ∀ W, Agree b1 w.heap.size w W → W.cell? (ad.add v) = some (.slice Ai (near.getD v []).length xc) ∧ Kd.C (Kd.int .i64) W Ai (near.getD v []).length (near.getD v []) := by
 obtain ⟨g, cap, he, hb, hlt, cells, hcells⟩ := Kd.S_form hs (by omega)
 injection he with he1 _ he3
 subst he1 he3
 obtain ⟨c, hcl, hM, hcc⟩ := Kd.S_get (Kd.S_bound hs) [] (v : Int) (by omega) (by omega)
 obtain ⟨vx, rfl, hr⟩ := hM
 obtain ⟨Ai, xc, rfl⟩ := Kd.R_slice hr
 simp only [Int.toNat_natCast] at hr hcc
 have hc1 := hcc 0 _ rfl
 rw [show (Kd.slice 3 (Kd.int .i64)).sz = 1 from rfl, Nat.mul_one, Nat.add_zero] at hc1
 refine ⟨⟨g, 0, none⟩, Ai, xc, rfl, (Kd.R_reads' hr).2.1, fun W hW => ⟨?_, ?_⟩⟩
 ·rw [← hc1]
  have h2 : (⟨g, 0, none⟩ : Addr).add v = ⟨g, 0 + v, none⟩ := by rw [Addr.add_lit]
  rw [h2]
  unfold World.cell?
  rw [hW g hb hlt]
 ·exact (Kd.R_reads' (Kd.R_move hr (w1 := W) (fun k hk => hW k hk.1.2.1 hk.1.2.2.1))).2.2
theorem own_W {w : World} {b1 : Nat} {A : Option Addr} {c : Nat} {l : List Int} (h : Kd.R (Kd.int .i64) 3 w b1 (fun _ => True) (.slice A l.length c) l) : ∀ W, Agree b1 w.heap.size w W → Kd.C (Kd.int .i64) W A l.length l := fun W hW =>
 (Kd.R_reads' (Kd.R_move (Kd.R_bound h) (w1 := W) (fun k hk => hW k hk.2.1 hk.2.2.1))).2.2
theorem nb_good {n : Nat} {arcs : List S58} (hc : chk (n : Int) arcs = 0) (v : Nat) : (∀ x ∈ (nbRows n arcs).getD v [], 0 ≤ x ∧ x < (n : Int)) ∧ ((nbRows n arcs).getD v []).length ≤ n := by
 by_cases hv : v < n
 ·have h1 : (nbRows n arcs).getD v [] = nbS arcs (v : Int) := by
   rw [List.getD_eq_getElem?_getD, List.getElem?_eq_getElem (by rw [nbRows_length]; exact hv), Option.getD_some, nbRows_get]
  rw [h1]
  have h2 : ∀ x ∈ nbS arcs (v : Int), 0 ≤ x ∧ x < (n : Int) := fun x hx => by
   obtain ⟨y, rfl, hy⟩ := nbS_nat hc hx
   rw [Int.toNat_natCast] at hy
   omega
  exact ⟨h2, inc_len_n (inc_setOf _) h2⟩
 ·have h1 : (nbRows n arcs).getD v [] = [] := by
   rw [List.getD_eq_getElem?_getD, List.getElem?_eq_none (by rw [nbRows_length]; omega)]
   rfl
  rw [h1]
  simp
theorem EIs.start {w : World} {base p : Nat} {o : Tags} {n : Nat} {gv ov rv ev : Value} {mb Bu cu Bd cd : Nat} {vu vd : Nat → Value} {arcs : List S58} {L R : List Int} {S : HSt} (h : HierIs w base p o n gv ov rv ev mb Bu cu Bd cd vu vd S) (hr : RIs w base o gv ov rv arcs L R) :
  ∃ o2, (∀ k, w.heap.size + 1 ≤ k → o2 k = (10, 0)) ∧ (∀ k, k < w.heap.size → o2 k = o k) ∧ EIs (w.alloc (.cells (nilRows n) 25 (0, 0))) base p w.heap.size o2 n gv ov rv ev mb Bu cu Bd cd vu vd (fun _ => .slice none 0 0) arcs L R (List.replicate n []) S := by
 have hb : Below w.heap.size w (w.alloc (.cells (nilRows n) 25 (0, 0))) := (Below.refl _ _).alloc (Nat.le_refl _) _
 refine ⟨fun k => if w.heap.size + 1 ≤ k then (10, 0) else tagPut o w.heap.size (1, 0) k, fun k hk => if_pos hk, fun k hk => ?_, ?_⟩
 ·show (if w.heap.size + 1 ≤ k then (10, 0) else tagPut o w.heap.size (1, 0) k) = o k
  rw [if_neg (by omega)]
  unfold tagPut
  rw [if_neg (by omega)]
 ·have ho : ∀ k, k < w.heap.size → (fun k => if w.heap.size + 1 ≤ k then ((10, 0) : Nat × Nat) else tagPut o w.heap.size (1, 0) k) k = o k := fun k hk => by
   show (if w.heap.size + 1 ≤ k then (10, 0) else tagPut o w.heap.size (1, 0) k) = o k
   rw [if_neg (by omega)]
   unfold tagPut
   rw [if_neg (by omega)]
  have h2 := (h.retag ho).below hb
  have h3 : RIs w base _ gv ov rv arcs L R := hr.retag ho
  exact ⟨h2, RowsIs.made (heap_alloc_new w _) (by
   show (if w.heap.size + 1 ≤ w.heap.size then (10, 0) else tagPut o w.heap.size (1, 0) w.heap.size) = (1, 0)
   rw [if_neg (by omega)]
   unfold tagPut
   rw [if_pos rfl]) h.base_le, h3.move (fun k hk _ _ => hb.block k hk)⟩
theorem EIs.fresh {w : World} {base p Bh : Nat} {o : Tags} {n : Nat} {gv ov rv ev : Value} {mb Bu cu Bd cd : Nat} {vu vd vh : Nat → Value} {arcs : List S58} {L R : List Int} {H : List (List Int)} {S : HSt} (h : EIs w base p Bh o n gv ov rv ev mb Bu cu Bd cd vu vd vh arcs L R H S) :
  ∃ o2, (∀ k, w.heap.size ≤ k → o2 k = (10, 0)) ∧ (∀ k, k < w.heap.size → o2 k = o k) ∧ EIs w base p Bh o2 n gv ov rv ev mb Bu cu Bd cd vu vd vh arcs L R H S := by
 refine ⟨fun k => if w.heap.size ≤ k then (10, 0) else o k, fun k hk => if_pos hk, fun k hk => ?_, h.retag (fun k hk => ?_)⟩
 ·show (if w.heap.size ≤ k then (10, 0) else o k) = o k
  rw [if_neg (by omega)]
 ·show (if w.heap.size ≤ k then (10, 0) else o k) = o k
  rw [if_neg (by omega)]
theorem h2step_good {n c c' : Nat} {L : List Int} {r i : Nat} {l : List Int} {st : List (List Int) × HSt} (h : HGood n c st.1) (hs : SGood n c' st.2) (hl : ∀ x ∈ l, 0 ≤ x ∧ x < (n : Int)) (hi : i < l.length) : HGood n (c + 1) (h2step L r l i st).1 ∧ SGood n (c' + 1) (h2step L r l i st).2 := by
 have hm : ∀ j, j < l.length → 0 ≤ l.getD j 0 ∧ l.getD j 0 < (n : Int) := fun j hj => hl _ (by
  rw [List.getD_eq_getElem?_getD, List.getElem?_eq_getElem hj]
  exact List.getElem_mem hj)
 refine ⟨?_, hs.add⟩
 show HGood n (c + 1) (if 0 < i then hpush st.1 (l.getD 0 0).toNat (l.getD i 0) else st.1)
 split
 ·have := hm 0 (by omega)
  exact h.push (by omega) (hm i hi)
 ·exact h.le (by omega)
end Go.Proofs.Ytfnophaiamkmpaa.Print
