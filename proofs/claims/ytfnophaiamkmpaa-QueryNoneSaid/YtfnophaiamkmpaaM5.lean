/- Several texts of this claim in one: HP37c, HXPar, HXPair. -/
import Derived.Test.YtfnophaiamkmpaaM3
import Derived.Test.YtfnophaiamkmpaaF84
import Derived.Test.YtfnophaiamkmpaaM1
import Derived.Test.YtfnophaiamkmpaaM0
import Derived.ChangeKeysEq
import Derived.Test.YtfnophaiamkmpaaPrint0
namespace Go.Proofs.Ytfnophaiamkmpaa.Print
open Go.RowKit Go.Proofs.YtfnophaiamkmpaaW.PrintWords Go.Proofs.YtfnophaiamkmpaaW.PrintLast Go.Proofs.YtfnophaiamkmpaaW.PrintMore
set_option linter.unusedVariables false
set_option linter.unusedSimpArgs false
/-! ### Has, With -/
/-! ### Neighbours -/
def rawNb (l : List S58) (v : Int) : Nat → List Int
 | 0 => []
 | j + 1 => rawNb l v j ++ ((if (l.getD j z58).f0 = v ∧ ¬ (l.getD j z58).f1 = v then [(l.getD j z58).f1] else []) ++ (if (l.getD j z58).f1 = v ∧ ¬ (l.getD j z58).f0 = v then [(l.getD j z58).f0] else []))
theorem rawNb_length (l : List S58) (v : Int) : ∀ j, (rawNb l v j).length ≤ 2 * j
 | 0 => by simp [rawNb]
 | j + 1 => by
  have := rawNb_length l v j
  unfold rawNb
  rw [List.length_append, List.length_append]
  have a : (if (l.getD j z58).f0 = v ∧ ¬ (l.getD j z58).f1 = v then [(l.getD j z58).f1] else []).length ≤ 1 := by split <;> simp
  have b : (if (l.getD j z58).f1 = v ∧ ¬ (l.getD j z58).f0 = v then [(l.getD j z58).f0] else []).length ≤ 1 := by split <;> simp
  omega
def rawRows (n : Nat) (l : List S58) (j : Nat) : List (List Int) := (List.range n).map fun (v : Nat) => rawNb l (v : Int) j
theorem rawRows_length (n : Nat) (l : List S58) (j : Nat) : (rawRows n l j).length = n := by simp [rawRows]
theorem rawRows_get (n : Nat) (l : List S58) (j v : Nat) (h : v < (rawRows n l j).length) : (rawRows n l j)[v] = rawNb l (v : Int) j := by simp [rawRows]
def nbS (l : List S58) (v : Int) : List Int := setOf (rawNb l v l.length)
def nbRows (n : Nat) (l : List S58) : List (List Int) := (List.range n).map fun (v : Nat) => nbS l (v : Int)
theorem nbRows_length (n : Nat) (l : List S58) : (nbRows n l).length = n := by simp [nbRows]
theorem nbRows_get (n : Nat) (l : List S58) (v : Nat) (h : v < (nbRows n l).length) : (nbRows n l)[v] = nbS l (v : Int) := by simp [nbRows]
def neighS (N : Int) (l : List S58) : List (List Int) := if chk N l = 0 then nbRows N.toNat l else []
theorem raw_same (n : Nat) (l : List S58) (j : Nat) (hj : j < l.length) (he : l[j].f0 = l[j].f1) : rawRows n l (j + 1) = rawRows n l j := by
 unfold rawRows
 refine List.map_congr_left fun v _ => ?_
 have h1 : ¬ (l[j].f1 = (v : Int) ∧ ¬ l[j].f1 = (v : Int)) := fun h => h.2 h.1
 conv => lhs; rw [rawNb]
 rw [getD_arc l j hj, he, if_neg h1]
 exact List.append_nil _
theorem raw_succ (n : Nat) (l : List S58) (j a b : Nat) (hj : j < l.length) (ha : l[j].f0 = (a : Int)) (hb : l[j].f1 = (b : Int)) (hab : a ≠ b) (han : a < n) (hbn : b < n) :
  ((rawRows n l j).set a (rawNb l (a : Int) j ++ [(b : Int)])).set b (rawNb l (b : Int) j ++ [(a : Int)]) = rawRows n l (j + 1) := by
 apply List.ext_getElem
 ·simp [rawRows]
 ·intro v h1 h2
  rw [List.getElem_set, List.getElem_set, rawRows_get, rawRows_get]
  conv => rhs; unfold rawNb
  rw [getD_arc l j hj, ha, hb]
  by_cases e : b = v
  ·subst e
   have h3 : ¬ ((a : Int) = (b : Int) ∧ ¬ (b : Int) = (b : Int)) := fun h => h.2 rfl
   have h4 : (b : Int) = (b : Int) ∧ ¬ (a : Int) = (b : Int) := ⟨rfl, by omega⟩
   rw [if_pos rfl, if_neg h3, if_pos h4, List.nil_append]
  ·rw [if_neg e]
   have h4 : ¬ ((b : Int) = (v : Int) ∧ ¬ (a : Int) = (v : Int)) := fun h => by omega
   rw [if_neg h4, List.append_nil]
   by_cases e2 : a = v
   ·subst e2
    have h3 : (a : Int) = (a : Int) ∧ ¬ (b : Int) = (a : Int) := ⟨rfl, by omega⟩
    rw [if_pos rfl, if_pos h3]
   ·have h3 : ¬ ((a : Int) = (v : Int) ∧ ¬ (b : Int) = (v : Int)) := fun h => by omega
    rw [if_neg e2, if_neg h3, List.append_nil]
def halfRows (n : Nat) (l : List S58) (v : Nat) : List (List Int) := (nbRows n l).take v ++ (rawRows n l l.length).drop v
theorem halfRows_length (n : Nat) (l : List S58) (v : Nat) (h : v ≤ n) : (halfRows n l v).length = n := by
 unfold halfRows
 rw [List.length_append, List.length_take, List.length_drop, nbRows_length, rawRows_length]
 omega
theorem halfRows_get (n : Nat) (l : List S58) (v : Nat) (h : v < n) (h2 : v < (halfRows n l v).length) : (halfRows n l v)[v] = rawNb l (v : Int) l.length := by
 have hl : ((nbRows n l).take v).length = v := by rw [List.length_take, nbRows_length]; omega
 have h3 : (halfRows n l v)[v]? = some (rawNb l (v : Int) l.length) := by
  unfold halfRows
  rw [List.getElem?_append_right (by omega), hl, Nat.sub_self, List.getElem?_drop, Nat.add_zero, List.getElem?_eq_getElem (by rw [rawRows_length]; exact h), rawRows_get]
 exact (List.getElem?_eq_some_iff.1 h3).2
theorem halfRows_succ (n : Nat) (l : List S58) (v : Nat) (h : v < n) : (halfRows n l v).set v (nbS l (v : Int)) = halfRows n l (v + 1) := by
 unfold halfRows
 have hl : ((nbRows n l).take v).length = v := by rw [List.length_take, nbRows_length]; omega
 have hd : v < (rawRows n l l.length).length := by rw [rawRows_length]; exact h
 have ht : v < (nbRows n l).length := by rw [nbRows_length]; exact h
 rw [List.set_append_right _ _ (by omega), hl, Nat.sub_self, List.drop_eq_getElem_cons hd, List.set_cons_zero, List.take_succ_eq_append_getElem ht, List.append_assoc, nbRows_get]
 rfl
theorem nb_l1 (N : Int) (l : List S58) (hl : l.length < 1000000000000) (hN : N ≤ 1048576) (h0 : 0 ≤ N) : ∀ d v : Nat, v + d = N.toNat → Ev (fun k => graph_Neighbours.l1 k (halfRows N.toNat l v) N (v : Int)) (nbRows N.toNat l)
 | 0, v, h => by
  have hv : v = N.toNat := by omega
  subst hv
  have : halfRows N.toNat l N.toNat = nbRows N.toNat l := by
   unfold halfRows
   rw [List.take_of_length_le (by rw [nbRows_length]; exact Nat.le_refl _), List.drop_of_length_le (by rw [rawRows_length]; exact Nat.le_refl _), List.append_nil]
  rw [this]
  refine Ev.step1 fun k => ?_
  simp only [graph_Neighbours.l1]
  rw [if_neg (by omega)]
 | d + 1, v, h => by
  have hv : v < N.toNat := by omega
  have ih := nb_l1 N l hl hN h0 d (v + 1) (by omega)
  have hlen := halfRows_length N.toNat l v (by omega)
  have hrl := rawNb_length l (v : Int) l.length
  rw [← halfRows_succ _ _ _ hv] at ih
  refine Ev.step (fun k => ?_) ih
  simp only [graph_Neighbours.l1]
  rw [if_pos (by omega), if_pos (by omega), if_pos (by rw [hlen]; omega), rd_row _ v (by rw [hlen]; exact hv), halfRows_get _ _ _ hv]
  unfold sets_Of.f
  rw [if_pos (by omega)]
  simp only [Option.bind_some, show ((v : Int)).toNat = v by omega, wrap_succ (show v < 1000000000000000 by omega)]
  rfl
theorem nb_l0 (N : Int) (l : List S58) (hl : l.length < 1000000000000) (hc : chk N l = 0) : ∀ d j : Nat, j + d = l.length → Ev (fun k => graph_Neighbours.l0 k (rawRows N.toNat l j) l (l.length : Int) (j : Int) N l) (nbRows N.toNat l)
 | 0, j, h => by
  obtain ⟨h0, h1, _⟩ := chk_ok hc
  have hj : j = l.length := by omega
  subst hj
  have h2 := nb_l1 N l hl h1 h0 N.toNat 0 (by omega)
  have h3 : halfRows N.toNat l 0 = rawRows N.toNat l l.length := by simp [halfRows]
  rw [h3] at h2
  refine Ev.step (fun k => ?_) h2
  simp only [graph_Neighbours.l0]
  rw [if_neg (by omega)]
  rfl
 | d + 1, j, h => by
  have hj : j < l.length := by omega
  obtain ⟨h0, h1, ha⟩ := chk_ok hc
  obtain ⟨f0, f1, f2, f3⟩ := ha j hj
  have ih := nb_l0 N l hl hc d (j + 1) (by omega)
  by_cases he : l[j].f0 = l[j].f1
  ·rw [raw_same _ _ _ hj he] at ih
   refine Ev.step (fun k => ?_) ih
   simp only [graph_Neighbours.l0]
   rw [if_pos (by omega), if_pos (by omega), if_pos (by omega), rd_arc l j hj, if_pos he, wrap_succ (by omega)]
  ·obtain ⟨a, hA⟩ := Int.eq_ofNat_of_zero_le f0
   obtain ⟨b, hB⟩ := Int.eq_ofNat_of_zero_le f2
   have hab : a ≠ b := fun e => he (by rw [hA, hB, e])
   have ran := rawNb_length l (a : Int) j
   have rbn := rawNb_length l (b : Int) j
   have hlen1 : ((rawRows N.toNat l j).set a (rawNb l (a : Int) j ++ [(b : Int)])).length = N.toNat := by rw [List.length_set, rawRows_length]
   have hgb : ((rawRows N.toNat l j).set a (rawNb l (a : Int) j ++ [(b : Int)]))[b]'(by rw [hlen1]; omega) = rawNb l (b : Int) j := by
    rw [List.getElem_set_ne hab, rawRows_get]
   rw [← raw_succ _ _ _ a b hj hA hB hab (by omega) (by omega)] at ih
   refine Ev.step (fun k => ?_) ih
   simp only [graph_Neighbours.l0]
   rw [if_pos (by omega), if_pos (by omega), if_pos (by omega), rd_arc l j hj, if_neg he, if_pos f0, if_pos (by rw [rawRows_length]; omega), hA, hB, rd_row _ a (by rw [rawRows_length]; omega), rawRows_get, if_pos (by omega)]
   simp only [Option.bind_some, show ((a : Int)).toNat = a by omega, show ((b : Int)).toNat = b by omega]
   rw [if_pos (by omega), if_pos (by rw [rawRows_length]; omega), rd_row _ b (by rw [hlen1]; omega), hgb, if_pos (by omega), wrap_succ (by omega)]
theorem rawRows_zero (n : Nat) (l : List S58) : List.replicate n ([] : List Int) = rawRows n l 0 := by
 apply List.ext_getElem
 ·simp [rawRows]
 ·intro v h1 h2
  rw [rawRows_get]
  simp [rawNb]
theorem graph_Neighbours.ev (N : Int) (l : List S58) (hl : l.length < 1000000000000) : Ev (fun k => graph_Neighbours.f k N l) (neighS N l) := by
 unfold graph_Neighbours.f neighS
 refine Ev.bind (graph_Check.ev N l hl) ?_
 by_cases h : chk N l = 0
 ·obtain ⟨h0, h1, _⟩ := chk_ok h
  simp only [if_pos h, if_pos h0, if_pos (show N.toNat ≤ 11728124029610 by omega), rawRows_zero N.toNat l]
  exact nb_l0 N l hl h l.length 0 (by omega)
 ·simp only [if_neg h]
  exact Ev.now _
def Adj (l : List S58) (u v : Nat) : Prop := u ≠ v ∧ ∃ a ∈ l, (a.f0 = (u : Int) ∧ a.f1 = (v : Int)) ∨ (a.f1 = (u : Int) ∧ a.f0 = (v : Int))
theorem Adj.symm {l : List S58} (u v : Nat) (h : Adj l u v) : Adj l v u := by
 obtain ⟨hne, a, ha, h⟩ := h
 exact ⟨fun e => hne e.symm, a, ha, h.elim (fun h => .inr ⟨h.2, h.1⟩) (fun h => .inl ⟨h.2, h.1⟩)⟩
theorem mem_rawNb {l : List S58} {v x : Int} : ∀ j, j ≤ l.length → (x ∈ rawNb l v j ↔ x ≠ v ∧ ∃ (i : Nat) (hi : i < l.length), i < j ∧ ((l[i].f0 = v ∧ l[i].f1 = x) ∨ (l[i].f1 = v ∧ l[i].f0 = x)))
 | 0, _ => by
  constructor
  ·intro h; cases h
  ·rintro ⟨_, i, _, hi, _⟩; omega
 | j + 1, h => by
  have hj : j < l.length := by omega
  have ih := mem_rawNb (l := l) (v := v) (x := x) j (by omega)
  rw [rawNb, getD_arc l j hj, List.mem_append, List.mem_append, ih]
  have e1 : x ∈ (if l[j].f0 = v ∧ ¬ l[j].f1 = v then [l[j].f1] else []) ↔ (l[j].f0 = v ∧ l[j].f1 = x ∧ x ≠ v) := by
   split
   ·rename_i hc
    rw [List.mem_singleton]
    exact ⟨fun e => ⟨hc.1, e.symm, by rw [e]; exact hc.2⟩, fun e => e.2.1.symm⟩
   ·rename_i hc
    constructor
    ·intro h; cases h
    ·rintro ⟨h1, h2, h3⟩
     exact absurd ⟨h1, by rw [h2]; exact h3⟩ hc
  have e2 : x ∈ (if l[j].f1 = v ∧ ¬ l[j].f0 = v then [l[j].f0] else []) ↔ (l[j].f1 = v ∧ l[j].f0 = x ∧ x ≠ v) := by
   split
   ·rename_i hc
    rw [List.mem_singleton]
    exact ⟨fun e => ⟨hc.1, e.symm, by rw [e]; exact hc.2⟩, fun e => e.2.1.symm⟩
   ·rename_i hc
    constructor
    ·intro h; cases h
    ·rintro ⟨h1, h2, h3⟩
     exact absurd ⟨h1, by rw [h2]; exact h3⟩ hc
  rw [e1, e2]
  constructor
  ·rintro (⟨hne, i, hi, hij, hc⟩ | ⟨h1, h2, h3⟩ | ⟨h1, h2, h3⟩)
   ·exact ⟨hne, i, hi, by omega, hc⟩
   ·exact ⟨h3, j, hj, by omega, .inl ⟨h1, h2⟩⟩
   ·exact ⟨h3, j, hj, by omega, .inr ⟨h1, h2⟩⟩
  ·rintro ⟨hne, i, hi, hij, hc⟩
   by_cases e : i = j
   ·subst e
    rcases hc with hc | hc
    ·exact .inr (.inl ⟨hc.1, hc.2, hne⟩)
    ·exact .inr (.inr ⟨hc.1, hc.2, hne⟩)
   ·exact .inl ⟨hne, i, hi, by omega, hc⟩
theorem mem_nbS {l : List S58} {u x : Nat} : (x : Int) ∈ nbS l (u : Int) ↔ Adj l u x := by
 unfold nbS
 rw [mem_setOf, mem_rawNb _ (Nat.le_refl _)]
 constructor
 ·rintro ⟨hne, i, hi, _, hc⟩
  exact ⟨fun e => hne (by rw [e]), l[i], List.getElem_mem hi, hc⟩
 ·rintro ⟨hne, a, ha, hc⟩
  obtain ⟨i, hi, rfl⟩ := List.mem_iff_getElem.1 ha
  exact ⟨fun e => hne (by omega), i, hi, hi, hc⟩
theorem nbS_nat {N : Int} {l : List S58} (hc : chk N l = 0) {v x : Int} (h : x ∈ nbS l v) : ∃ y : Nat, x = (y : Int) ∧ y < N.toNat := by
 unfold nbS at h
 rw [mem_setOf, mem_rawNb _ (Nat.le_refl _)] at h
 obtain ⟨_, i, hi, _, hcc⟩ := h
 obtain ⟨h0, h1, ha⟩ := chk_ok hc
 obtain ⟨f0, f1, f2, f3⟩ := ha i hi
 rcases hcc with ⟨_, e⟩ | ⟨_, e⟩
 ·exact ⟨x.toNat, by omega, by omega⟩
 ·exact ⟨x.toNat, by omega, by omega⟩
def codeL : Code → Code
 | .seq a _ => a
 | c => c
def codeR : Code → Code
 | .seq _ b => b
 | c => c
def regOps : Code → Array Oper
 | .region _ ops _ => ops
 | _ => #[]
section
variable {P : Program} {ops : Array Oper} {Q : Exit → Act → World → Prop} {md : Region.Mode} {S : World → Prop} {ds : List Nat}
theorem ready_ {rs : List Nat} {fuel : Nat} {l : Array Bool} {a : Act} {w : World} (hr : (Region.ready md ops l == rs) = true) (hne : rs ≠ []) (h : AllReadyL P md ops Q S ds fuel l a w rs) : wpAnyLast P md ops Q S ds (fuel + 1) l a w := wpAnyLast_ready (by simpa using hr) hne h
theorem more_ {i : Nat} {N : Option Tmp} {oi : Oper} {fuel : Nat} {l : Array Bool} {a : Act} {w : World} {rs : List Nat} (l' : Array Bool) (hi : ops[i]? = some oi) (hN : oi.dst = N) (hl : (l.setIfInBounds i true == l') = true) (hd : i ∉ ds)
  (h : ∀ K : Act → World → Prop, Shut (∀ a' w', S w' → (S w' → wpAnyLast P md ops Q S ds fuel l' a' w') → K a' w') → if Region.wanted oi (yielded ops a.tmps) = true then Oper.wp P oi a w K Q else K (a.put N undef) w)
  (hs : AllReadyL P md ops Q S ds fuel l a w rs) : AllReadyL P md ops Q S ds fuel l a w (i :: rs) := by
 subst hN
 have hl' := beq_iff_eq.1 hl
 subst hl'
 exact AllReadyL.cons hi hd (fun K hK => h K hK) hs
theorem m_ (i d : Nat) {n m fuel : Nat} {oi : Oper} {a : Act} {w : World} {rs : List Nat}
  (h : ∀ K : Act → World → Prop, Shut (∀ a' w', S w' → (S w' → wpAnyLast P md ops Q S ds fuel (bits n (m ||| (1 <<< i))) a' w') → K a' w') → if Region.wanted oi (yielded ops a.tmps) = true then Oper.wp P oi a w K Q else K (a.put (some d) undef) w)
  (hs : AllReadyL P md ops Q S ds fuel (bits n m) a w rs) (hi : ops[i]? = some oi := by rfl) (hN : oi.dst = some d := by rfl) (hl : ((bits n m).setIfInBounds i true == bits n (m ||| (1 <<< i))) = true := by kernel_rfl) (hd : i ∉ ds := by decide) : AllReadyL P md ops Q S ds fuel (bits n m) a w (i :: rs) := more_ (bits n (m ||| (1 <<< i))) hi hN hl hd h hs
end
abbrev encP (p : Int × Int) : Value := .agg #[.int .i64 p.1, .int .i64 p.2]
section
variable {P : Program} {kt it : TypeId} {inf : TypeInfo} (hk : P.underlying kt = some (.array 2 it)) (hu : P.underlying it = some (.int .i64)) (hinf : P.info? it = some inf) (hs : inf.size = 1)
include hk hu hinf hs
omit hk in
theorem run_eqItems_pair (p q : Int × Int) (w : World) : (Op.eqItems 9999 it (P.cellsOf it) #[.int .i64 p.1, .int .i64 p.2] #[.int .i64 q.1, .int .i64 q.2] [0, 1]).run P w = .ok (decide (p = q)) w := by
 have he : P.plainKey it = true := by unfold Program.plainKey; simp [hu]
 have hc : P.cellsOf it = 1 := by simp [Program.cellsOf, hinf, hs]
 have heq : ∀ (a b : Int) (w : World), (Op.equalIn 9999 it (.int .i64 a) (.int .i64 b)).run P w = .ok (a == b) w := fun a b w => by
  unfold Op.equalIn
  simp [run_underlying hu]
 have p0 : ∀ (x y : Int) (w : World), (part it #[.int .i64 x, .int .i64 y] (0 * 1)).run P w = .ok (.int .i64 x) w := fun x y w => run_part_plain w he rfl
 have p1 : ∀ (x y : Int) (w : World), (part it #[.int .i64 x, .int .i64 y] (1 * 1)).run P w = .ok (.int .i64 y) w := fun x y w => run_part_plain w he rfl
 obtain ⟨a, b⟩ := p
 obtain ⟨c, d⟩ := q
 have p2 : ∀ (x y : Int) (w : World), (part it #[.int .i64 x, .int .i64 y] 1).run P w = .ok (.int .i64 y) w := fun x y w => run_part_plain w he rfl
 rw [hc]
 simp only [Op.eqItems, Sem.run_bind, p0, p1, heq, Result.andThen_ok]
 by_cases h1 : a = c
 ·by_cases h2 : b = d
  ·simp [h1, h2, p2, heq]
  ·simp [h1, h2, p2, heq]
 ·simp [h1]
theorem run_equal_pair (p q : Int × Int) (w : World) : (Op.equal kt (encP p) (encP q)).run P w = .ok (decide (p = q)) w := by
 show (Op.equalIn (9999 + 1) kt (.agg #[.int .i64 p.1, .int .i64 p.2]) (.agg #[.int .i64 q.1, .int .i64 q.2])).run P w = _
 rw [run_equalIn_array w 9999 _ _ hk hinf]
 exact run_eqItems_pair hu hinf hs p q w
theorem findAsking_pair {ε : Type} (encE : ε → Value) (k : Int × Int) : ∀ (es : List MapEntry) (m : List ((Int × Int) × ε)) (i : Nat) (w : World), es.map (fun x => (x.key, x.val)) = m.map (fun p => (encP p.1, encE p.2)) →
  (Instr.findAsking kt (encP k) es i).run P w = .ok ((midx m k i).map fun q => (q.1, encE q.2)) w
 | [], [], i, w, _ => rfl
 | [], p :: r, i, w, h => by simp at h
 | x :: es, [], i, w, h => by simp at h
 | x :: es, p :: r, i, w, h => by
  simp only [List.map_cons, List.cons.injEq, Prod.mk.injEq] at h
  obtain ⟨⟨hkx, hv⟩, h⟩ := h
  unfold Instr.findAsking midx
  rw [Sem.run_bind, hkx, run_equal_pair hk hu hinf hs k p.1 w, Result.andThen_ok]
  by_cases he : p.1 = k
  ·rw [decide_eq_true he.symm, if_pos rfl, if_pos he, hv]
   rfl
  ·rw [decide_eq_false (fun e => he e.symm), if_neg (by decide), if_neg he]
   exact findAsking_pair encE k es r (i + 1) w h
theorem pairKey : KeyKind P kt encP where
 find := by
  intro ε encE k es m w he
  unfold Instr.findKey
  simp only [Sem.run_bind, run_underlying hk, Result.andThen_ok]
  have hn : ∀ (v : Value) (es : List MapEntry), Instr.findNow (.array 2 it) v es 0 = if es = [] then some none else none := fun v es => by
   cases es with
   | nil => rfl
   | cons a r => simp [Instr.findNow, Instr.sameNow]
  rw [hn]
  cases es with
  | nil =>
   cases m with
   | nil => rfl
   | cons a r => simp at he
  | cons a r =>
   simp only [if_neg (List.cons_ne_nil a r)]
   exact findAsking_pair hk hu hinf hs encE k (a :: r) m 0 w he
 check := by
  intro e k w
  have he : P.plainKey it = true := by unfold Program.plainKey; simp [hu]
  have hc : P.cellsOf it = 1 := by simp [Program.cellsOf, hinf, hs]
  have p0 : ∀ (w : World), (part it #[.int .i64 k.1, .int .i64 k.2] (0 * 1)).run P w = .ok (.int .i64 k.1) w := fun w => run_part_plain w he rfl
  have p1 : ∀ (w : World), (part it #[.int .i64 k.1, .int .i64 k.2] (1 * 1)).run P w = .ok (.int .i64 k.2) w := fun w => run_part_plain w he rfl
  have hch : ∀ (a : Int) (w : World), (Instr.checkKey e 9999 it (.int .i64 a)).run P w = .ok () w := fun a w => by
   unfold Instr.checkKey
   simp [run_underlying hu]
  show (Instr.checkKey e (9999 + 1) kt (.agg #[.int .i64 k.1, .int .i64 k.2])).run P w = _
  unfold Instr.checkKey
  simp only [Sem.run_bind, run_underlying hk, Result.andThen_ok]
  simp only [Std.Legacy.Range.forIn_eq_forIn_range', Std.Legacy.Range.size, Nat.sub_zero, Nat.add_one_sub_one, Nat.div_one]
  rw [show List.range' 0 2 = [0, 1] from rfl]
  simp only [List.forIn_cons, List.forIn_nil, Sem.run_bind, run_sizeOf _ hinf, hc, Result.andThen_ok, p0, p1, hch, Sem.run_pure]
 same := by
  intro k
  simp [Instr.sameBits]
 inj := by
  intro k k' h
  obtain ⟨a, b⟩ := k
  obtain ⟨c, d⟩ := k'
  simp [encP] at h
  simp [h]
end
abbrev Tags := Nat → Nat × Nat
def tagPut (o : Tags) (k : Nat) (t : Nat × Nat) : Tags := fun j => if j = k then t else o j
structure RowsIs (w : World) (base B t : Nat) (o : Tags) (vs : Nat → Value) (rs : List (List Int)) : Prop where
 cell : ∀ i, i < rs.length → w.cell? ⟨B, i, none⟩ = some (vs i)
 row : ∀ i, i < rs.length → Kd.R (Kd.int .i64) 3 w base (fun k => o k = (t, i + 1)) (vs i) (rs.getD i [])
 own : o B = (t, 0)
 lo : base ≤ B
 top : B < w.heap.size
 frz : ∀ i, w.frozen? ⟨B, i, none⟩ = false
section
variable {w w1 : World} {base B t : Nat} {o o' : Tags} {vs : Nat → Value} {rs : List (List Int)}
theorem rows_move (h : RowsIs w base B t o vs rs) (hs : w.heap.size ≤ w1.heap.size) (hm : ∀ k, k < w.heap.size → (o k).1 = t → w1.heap[k]? = w.heap[k]?) : RowsIs w1 base B t o vs rs := by
 have hB := hm B h.top (by rw [h.own])
 refine ⟨fun i hi => ?_, fun i hi => Kd.R_step (h.row i hi) (fun k hk hlt => hm k hlt (by rw [hk])), h.own, h.lo, Nat.lt_of_lt_of_le h.top hs, fun i => (World.frozen?_of_block hB).trans (h.frz i)⟩
 rw [← h.cell i hi]
 unfold World.cell?
 rw [hB]
theorem RowsIs.below (h : RowsIs w base B t o vs rs) (hb : Below w.heap.size w w1) : RowsIs w1 base B t o vs rs := rows_move h hb.size (fun k hk _ => hb.block k hk)
theorem RowsIs.drew (h : RowsIs w base B t o vs rs) : RowsIs w.drew base B t o vs rs := rows_move h (Nat.le_refl _) (fun _ _ _ => rfl)
theorem RowsIs.grown (h : RowsIs w base B t o vs rs) {row : Option Nat} (hg : w.grownBy w1 row) (hne : ∀ k, row = some k → (o k).1 ≠ t) : RowsIs w1 base B t o vs rs :=
 rows_move h hg.size (fun k hk ht => hg.block k hk (fun e => hne k e.symm ht))
theorem RowsIs.far (h : RowsIs w base B t o vs rs) (a : Addr) (v : Value) (ha : (o a.block).1 ≠ t) : RowsIs (w.setCell a v) base B t o vs rs :=
 rows_move h (by simp [World.setCell]) (fun k hk ht => Below.heap_setCell w a v k (fun e => ha (by rw [← e]; exact ht)))
theorem RowsIs.retag (h : RowsIs w base B t o vs rs) (ho : ∀ k, k < w.heap.size → o' k = o k) : RowsIs w base B t o' vs rs := by
 refine ⟨h.cell, fun i hi => ?_, by rw [ho B h.top]; exact h.own, h.lo, h.top, h.frz⟩
 have h1 := h.row i hi
 exact Kd.R_reok rfl h1 (fun k hk => by rw [ho k (Kd.R_lt h1 k hk)]; exact h1.1 k hk)
theorem RowsIs.put (h : RowsIs w base B t o vs rs) {i : Nat} (hi : i < rs.length) {v1 : Value} {r1 : List Int} (hr : Kd.R (Kd.int .i64) 3 w1 base (fun _ => True) v1 r1) (hg : w.grownBy w1 (vs i).ownBlock)
  (hat : v1.ownBlock = (vs i).ownBlock ∨ ∃ b, v1.ownBlock = some b ∧ w.heap.size ≤ b) :
  ∃ o', (∀ k, k < w.heap.size → o' k = o k) ∧ (∀ k, v1.ownBlock = some k → o' k = (t, i + 1)) ∧ RowsIs (w1.setCell ⟨B, i, none⟩ v1) base B t o' (fun j => if j = i then v1 else vs j) (rs.set i r1) := by
 have hvi := h.row i hi
 have hBv : ∀ k, (vs i).ownBlock = some k → k ≠ B := fun k hk e => by
  have h1 := hvi.1 k hk
  rw [e, h.own] at h1
  simp at h1
 have hB1 : w1.heap[B]? = w.heap[B]? := hg.block B h.top (fun e => hBv B e.symm rfl)
 have hsz : w1.heap.size ≤ (w1.setCell ⟨B, i, none⟩ v1).heap.size := by simp [World.setCell]
 obtain ⟨o', ho1, ho2, ho3⟩ : ∃ o' : Tags, (∀ k, k < w.heap.size → o' k = o k) ∧ (∀ k, v1.ownBlock = some k → o' k = (t, i + 1)) ∧ (∀ k, v1.ownBlock = some k → k ≠ B) := by
  rcases hat with e | ⟨b, e, hb⟩
  ·exact ⟨o, fun _ _ => rfl, fun k hk => hvi.1 k (by rw [← e]; exact hk), fun k hk => hBv k (by rw [← e]; exact hk)⟩
  ·refine ⟨tagPut o b (t, i + 1), fun k hk => ?_, fun k hk => ?_, fun k hk e2 => ?_⟩
   ·unfold tagPut
    rw [if_neg (by omega)]
   ·rw [e] at hk
    injection hk with hk
    subst hk
    unfold tagPut
    rw [if_pos rfl]
   ·rw [e] at hk
    injection hk with hk
    have := h.top
    omega
 refine ⟨o', ho1, ho2, ?_⟩
 refine ⟨fun j hj => ?_, fun j hj => ?_, by rw [ho1 B h.top]; exact h.own, h.lo, ?_, fun j => ?_⟩
 ·rw [List.length_set] at hj
  have hc : w1.cell? ⟨B, j, none⟩ = some (vs j) := by
   rw [← h.cell j hj]
   unfold World.cell?
   rw [hB1]
  by_cases e : j = i
  ·subst e
   rw [if_pos rfl]
   exact World.cell?_setCell_same _ _ _ hc
  ·rw [if_neg e]
   refine (World.cell?_setCell_other (h := fun e2 => ?_) ..).trans hc
   injection e2 with _ e2
   exact e e2.symm
 ·rw [List.length_set] at hj
  by_cases e : j = i
  ·subst e
   rw [if_pos rfl]
   have hget : (rs.set j r1).getD j [] = r1 := by simp [List.getElem?_set, hj]
   rw [hget]
   refine Kd.R_step (Kd.R_reok rfl hr ho2) (fun k hk hlt => Below.heap_setCell _ _ _ _ (fun e2 => ?_))
   have e3 : k = B := e2
   rw [e3, ho1 B h.top, h.own] at hk
   simp at hk
  ·rw [if_neg e]
   have hget : (rs.set i r1).getD j [] = rs.getD j [] := by
    rw [List.getD_eq_getElem?_getD, List.getElem?_set, if_neg (fun x => e x.symm), ← List.getD_eq_getElem?_getD]
   rw [hget]
   have hrj := h.row j hj
   have hlt : ∀ k, (vs j).ownBlock = some k → k < w.heap.size := Kd.R_lt hrj
   have h1 : Kd.R (Kd.int .i64) 3 w1 base (fun k => o k = (t, j + 1)) (vs j) (rs.getD j []) := Kd.R_step hrj (fun k hk hlt => hg.block k hlt (fun e2 => by
    have h2 : o k = (t, i + 1) := hvi.1 k e2.symm
    rw [hk] at h2
    simp at h2
    exact e h2))
   have h2 := Kd.R_reok (ok := fun k => o' k = (t, j + 1)) rfl h1 (fun k hk => by rw [ho1 k (hlt k hk)]; exact hrj.1 k hk)
   refine Kd.R_step h2 (fun k hk hlt => Below.heap_setCell _ _ _ _ (fun e2 => ?_))
   have e3 : k = B := e2
   rw [e3, ho1 B h.top, h.own] at hk
   simp at hk
 ·exact Nat.lt_of_lt_of_le h.top (Nat.le_trans hg.size hsz)
 ·rw [World.frozen?_setCell]
  exact (World.frozen?_of_block hB1).trans (h.frz j)
end
end Go.Proofs.Ytfnophaiamkmpaa.Print
