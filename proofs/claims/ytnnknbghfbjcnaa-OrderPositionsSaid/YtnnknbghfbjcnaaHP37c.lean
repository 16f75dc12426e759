/- Neighbours of a graph: the program's and the reference's answers are the same lists. -/
import Derived.Test.YtnnknbghfbjcnaaHP37b
import Derived.Test.YtnnknbghfbjcnaaF17
import Derived.Test.YtnnknbghfbjcnaaF18
namespace Go.Proofs.Ytnnknbghfbjcnaa.Print
open Go.RowKit Go.Proofs.YtnnknbghfbjcnaaW.PrintWords Go.Proofs.YtnnknbghfbjcnaaW.PrintLast Go.Proofs.YtnnknbghfbjcnaaW.PrintMore
set_option linter.unusedVariables false
set_option linter.unusedSimpArgs false

/-! ### Has, With -/
theorem has_l0 (s : List Int) (x : Int) (hs : s.length < 1000000000000) : ∀ d j : Nat, j + d = s.length → Ev (fun k => mapmakerref05_Has.l0 k s x (j : Int)) (decide (x ∈ s.drop j))
  | 0, j, h => by
    have hj : j = s.length := by omega
    subst hj
    rw [List.drop_length]
    refine Ev.step1 fun k => ?_
    simp only [mapmakerref05_Has.l0]
    rw [if_neg (by omega)]
    rfl
  | d + 1, j, h => by
    have hj : j < s.length := by omega
    have ih := has_l0 s x hs d (j + 1) (by omega)
    rw [List.drop_eq_getElem_cons hj]
    by_cases e : s[j] = x
    · have : decide (x ∈ s[j] :: s.drop (j + 1)) = true := decide_eq_true (by rw [List.mem_cons]; exact .inl e.symm)
      rw [this]
      refine Ev.step1 fun k => ?_
      simp only [mapmakerref05_Has.l0]
      rw [if_pos (by omega), if_pos (by omega), rd_int s j hj, if_pos e]
    · have e' : ¬ x = s[j] := fun h => e h.symm
      have : decide (x ∈ s[j] :: s.drop (j + 1)) = decide (x ∈ s.drop (j + 1)) := by
        rw [decide_eq_decide, List.mem_cons]
        exact ⟨fun h => h.resolve_left e', .inr⟩
      rw [this]
      refine Ev.step (fun k => ?_) ih
      simp only [mapmakerref05_Has.l0]
      rw [if_pos (by omega), if_pos (by omega), rd_int s j hj, if_neg e, wrap_succ (by omega)]
theorem mapmakerref05_Has.ev (s : List Int) (x : Int) (hs : s.length < 1000000000000) : Ev (fun k => mapmakerref05_Has.f k s x) (decide (x ∈ s)) := has_l0 s x hs s.length 0 (by omega)
theorem with_l1 (s : List Int) (hs : s.length < 1000000000000) : ∀ (d j : Nat) (o : List Int), j + d = s.length → o.length ≤ j + 1 → Ev (fun k => mapmakerref05_With.l1 k s o (j : Int)) (o ++ s.drop j)
  | 0, j, o, h, ho => by
    have hj : j = s.length := by omega
    subst hj
    rw [List.drop_length, List.append_nil]
    refine Ev.step1 fun k => ?_
    simp only [mapmakerref05_With.l1]
    rw [if_neg (by omega)]
  | d + 1, j, o, h, ho => by
    have hj : j < s.length := by omega
    have ih := with_l1 s hs d (j + 1) (o ++ [s[j]]) (by omega) (by simp; omega)
    rw [List.append_assoc, List.singleton_append, ← List.drop_eq_getElem_cons hj] at ih
    refine Ev.step (fun k => ?_) ih
    simp only [mapmakerref05_With.l1]
    rw [if_pos (by omega), if_pos (by omega), if_pos (by omega), rd_int s j hj, wrap_succ (by omega)]
theorem with_l0 (s : List Int) (x : Int) (hs : s.length < 1000000000000) (hx : x ∉ s) : ∀ (d j : Nat), j + d = s.length → Ev (fun k => mapmakerref05_With.l0 k s x (s.take j) (j : Int)) (s.take j ++ ins x (s.drop j))
  | 0, j, h => by
    have hj : j = s.length := by omega
    subst hj
    rw [List.drop_length, List.take_length]
    have h1 := with_l1 s hs 0 s.length (s ++ [x]) (by omega) (by simp)
    rw [List.drop_length, List.append_nil] at h1
    have h2 : Ev (fun k => mapmakerref05_With.j1 k s x s (s.length : Int)) (s ++ [x]) := Ev.step (fun k => by simp only [mapmakerref05_With.j1]; rw [if_pos (by omega)]) h1
    refine Ev.step (fun k => ?_) h2
    simp only [mapmakerref05_With.l0]
    rw [if_neg (by omega)]
  | d + 1, j, h => by
    have hj : j < s.length := by omega
    rw [List.drop_eq_getElem_cons hj]
    by_cases e : s[j] < x
    · have ih := with_l0 s x hs hx d (j + 1) (by omega)
      rw [List.take_succ_eq_append_getElem hj, List.append_assoc, List.singleton_append] at ih
      unfold ins
      rw [if_pos e]
      refine Ev.step (fun k => ?_) ih
      simp only [mapmakerref05_With.l0]
      rw [if_pos (by omega), if_pos (by omega), rd_int s j hj, if_pos e, if_pos (by simp; omega), wrap_succ (by omega)]
    · have hne : ¬ s[j] = x := fun h => hx (h ▸ List.getElem_mem hj)
      unfold ins
      rw [if_neg e, if_neg hne]
      have h1 := with_l1 s hs (d + 1) j (s.take j ++ [x]) (by omega) (by simp; omega)
      rw [List.append_assoc, List.singleton_append, List.drop_eq_getElem_cons hj] at h1
      have h2 : Ev (fun k => mapmakerref05_With.j1 k s x (s.take j) (j : Int)) (s.take j ++ x :: s[j] :: s.drop (j + 1)) := Ev.step (fun k => by simp only [mapmakerref05_With.j1]; rw [if_pos (by simp; omega)]) h1
      refine Ev.step (fun k => ?_) h2
      simp only [mapmakerref05_With.l0]
      rw [if_pos (by omega), if_pos (by omega), rd_int s j hj, if_neg e]
theorem mapmakerref05_With.ev (s : List Int) (x : Int) (hs : s.length < 1000000000000) (hi : Inc s) : Ev (fun k => mapmakerref05_With.f k s x) (ins x s) := by
  unfold mapmakerref05_With.f
  refine Ev.bind (mapmakerref05_Has.ev s x hs) ?_
  by_cases h : x ∈ s
  · simp only [decide_eq_true h, if_true]
    rw [ins_of_mem hi h]
    exact Ev.now _
  · simp only [decide_eq_false h, Bool.false_eq_true, if_false]
    have := with_l0 s x hs h s.length 0 (by omega)
    simpa using this

/-! ### Neighbours -/
/-- What the first j arcs tell of v's neighbours, as they come. -/
def rawNb (l : List S40) (v : Int) : Nat → List Int
  | 0 => []
  | j + 1 => rawNb l v j ++ ((if (l.getD j z40).f0 = v ∧ ¬ (l.getD j z40).f1 = v then [(l.getD j z40).f1] else []) ++ (if (l.getD j z40).f1 = v ∧ ¬ (l.getD j z40).f0 = v then [(l.getD j z40).f0] else []))
theorem rawNb_length (l : List S40) (v : Int) : ∀ j, (rawNb l v j).length ≤ 2 * j
  | 0 => by simp [rawNb]
  | j + 1 => by
    have := rawNb_length l v j
    unfold rawNb
    rw [List.length_append, List.length_append]
    have a : (if (l.getD j z40).f0 = v ∧ ¬ (l.getD j z40).f1 = v then [(l.getD j z40).f1] else []).length ≤ 1 := by split <;> simp
    have b : (if (l.getD j z40).f1 = v ∧ ¬ (l.getD j z40).f0 = v then [(l.getD j z40).f0] else []).length ≤ 1 := by split <;> simp
    omega
def rawRows (n : Nat) (l : List S40) (j : Nat) : List (List Int) := (List.range n).map fun (v : Nat) => rawNb l (v : Int) j
theorem rawRows_length (n : Nat) (l : List S40) (j : Nat) : (rawRows n l j).length = n := by simp [rawRows]
theorem rawRows_get (n : Nat) (l : List S40) (j v : Nat) (h : v < (rawRows n l j).length) : (rawRows n l j)[v] = rawNb l (v : Int) j := by simp [rawRows]
/-- The neighbours of v. -/
def nbS (l : List S40) (v : Int) : List Int := setOf (rawNb l v l.length)
def nbRows (n : Nat) (l : List S40) : List (List Int) := (List.range n).map fun (v : Nat) => nbS l (v : Int)
theorem nbRows_length (n : Nat) (l : List S40) : (nbRows n l).length = n := by simp [nbRows]
theorem nbRows_get (n : Nat) (l : List S40) (v : Nat) (h : v < (nbRows n l).length) : (nbRows n l)[v] = nbS l (v : Int) := by simp [nbRows]
def neighS (N : Int) (l : List S40) : List (List Int) := if chk N l = 0 then nbRows N.toNat l else []
theorem raw_same (n : Nat) (l : List S40) (j : Nat) (hj : j < l.length) (he : l[j].f0 = l[j].f1) : rawRows n l (j + 1) = rawRows n l j := by
  unfold rawRows
  refine List.map_congr_left fun v _ => ?_
  have h1 : ¬ (l[j].f1 = (v : Int) ∧ ¬ l[j].f1 = (v : Int)) := fun h => h.2 h.1
  conv => lhs; rw [rawNb]
  rw [getD_arc l j hj, he, if_neg h1]
  exact List.append_nil _
theorem raw_succ (n : Nat) (l : List S40) (j a b : Nat) (hj : j < l.length) (ha : l[j].f0 = (a : Int)) (hb : l[j].f1 = (b : Int)) (hab : a ≠ b) (han : a < n) (hbn : b < n) :
    ((rawRows n l j).set a (rawNb l (a : Int) j ++ [(b : Int)])).set b (rawNb l (b : Int) j ++ [(a : Int)]) = rawRows n l (j + 1) := by
  apply List.ext_getElem
  · simp [rawRows]
  · intro v h1 h2
    rw [List.getElem_set, List.getElem_set, rawRows_get, rawRows_get]
    conv => rhs; unfold rawNb
    rw [getD_arc l j hj, ha, hb]
    by_cases e : b = v
    · subst e
      have h3 : ¬ ((a : Int) = (b : Int) ∧ ¬ (b : Int) = (b : Int)) := fun h => h.2 rfl
      have h4 : (b : Int) = (b : Int) ∧ ¬ (a : Int) = (b : Int) := ⟨rfl, by omega⟩
      rw [if_pos rfl, if_neg h3, if_pos h4, List.nil_append]
    · rw [if_neg e]
      have h4 : ¬ ((b : Int) = (v : Int) ∧ ¬ (a : Int) = (v : Int)) := fun h => by omega
      rw [if_neg h4, List.append_nil]
      by_cases e2 : a = v
      · subst e2
        have h3 : (a : Int) = (a : Int) ∧ ¬ (b : Int) = (a : Int) := ⟨rfl, by omega⟩
        rw [if_pos rfl, if_pos h3]
      · have h3 : ¬ ((a : Int) = (v : Int) ∧ ¬ (b : Int) = (v : Int)) := fun h => by omega
        rw [if_neg e2, if_neg h3, List.append_nil]
theorem setOf_append (l r : List Int) : setOf (l ++ r) = r.foldl (fun s x => ins x s) (setOf l) := by simp [setOf, List.foldl_append]
/-- The rows of which the first v are in their last form. -/
def halfRows (n : Nat) (l : List S40) (v : Nat) : List (List Int) := (nbRows n l).take v ++ (rawRows n l l.length).drop v
theorem halfRows_length (n : Nat) (l : List S40) (v : Nat) (h : v ≤ n) : (halfRows n l v).length = n := by
  unfold halfRows
  rw [List.length_append, List.length_take, List.length_drop, nbRows_length, rawRows_length]
  omega
theorem halfRows_get (n : Nat) (l : List S40) (v : Nat) (h : v < n) (h2 : v < (halfRows n l v).length) : (halfRows n l v)[v] = rawNb l (v : Int) l.length := by
  have hl : ((nbRows n l).take v).length = v := by rw [List.length_take, nbRows_length]; omega
  have h3 : (halfRows n l v)[v]? = some (rawNb l (v : Int) l.length) := by
    unfold halfRows
    rw [List.getElem?_append_right (by omega), hl, Nat.sub_self, List.getElem?_drop, Nat.add_zero, List.getElem?_eq_getElem (by rw [rawRows_length]; exact h), rawRows_get]
  exact (List.getElem?_eq_some_iff.1 h3).2
theorem halfRows_succ (n : Nat) (l : List S40) (v : Nat) (h : v < n) : (halfRows n l v).set v (nbS l (v : Int)) = halfRows n l (v + 1) := by
  unfold halfRows
  have hl : ((nbRows n l).take v).length = v := by rw [List.length_take, nbRows_length]; omega
  have hd : v < (rawRows n l l.length).length := by rw [rawRows_length]; exact h
  have ht : v < (nbRows n l).length := by rw [nbRows_length]; exact h
  rw [List.set_append_right _ _ (by omega), hl, Nat.sub_self, List.drop_eq_getElem_cons hd, List.set_cons_zero, List.take_succ_eq_append_getElem ht, List.append_assoc, nbRows_get]
  rfl
theorem nb_l1 (N : Int) (l : List S40) (hl : l.length < 1000000000000) (hN : N ≤ 1048576) (h0 : 0 ≤ N) : ∀ d v : Nat, v + d = N.toNat → Ev (fun k => graph_Neighbours.l1 k (halfRows N.toNat l v) N (v : Int)) (nbRows N.toNat l)
  | 0, v, h => by
    have hv : v = N.toNat := by omega
    subst hv
    have : halfRows N.toNat l N.toNat = nbRows N.toNat l := by
      unfold halfRows
      rw [List.take_of_length_le (by rw [nbRows_length]; exact Nat.le_refl _), List.drop_of_length_le (by rw [rawRows_length]; exact Nat.le_refl _), List.append_nil]
    rw [this]
    refine Ev.step1 fun k => ?_
    simp only [graph_Neighbours.l1]
    rw [if_neg (by omega)]
  | d + 1, v, h => by
    have hv : v < N.toNat := by omega
    have ih := nb_l1 N l hl hN h0 d (v + 1) (by omega)
    have hlen := halfRows_length N.toNat l v (by omega)
    have hrl := rawNb_length l (v : Int) l.length
    rw [← halfRows_succ _ _ _ hv] at ih
    refine Ev.step (fun k => ?_) ih
    simp only [graph_Neighbours.l1]
    rw [if_pos (by omega), if_pos (by omega), if_pos (by rw [hlen]; omega), rd_row _ v (by rw [hlen]; exact hv), halfRows_get _ _ _ hv]
    unfold sets_Of.f
    rw [if_pos (by omega)]
    simp only [Option.bind_some, show ((v : Int)).toNat = v by omega, wrap_succ (show v < 1000000000000000 by omega)]
    rfl
theorem nb_l0 (N : Int) (l : List S40) (hl : l.length < 1000000000000) (hc : chk N l = 0) : ∀ d j : Nat, j + d = l.length → Ev (fun k => graph_Neighbours.l0 k (rawRows N.toNat l j) l (l.length : Int) (j : Int) N l) (nbRows N.toNat l)
  | 0, j, h => by
    obtain ⟨h0, h1, _⟩ := chk_ok hc
    have hj : j = l.length := by omega
    subst hj
    have h2 := nb_l1 N l hl h1 h0 N.toNat 0 (by omega)
    have h3 : halfRows N.toNat l 0 = rawRows N.toNat l l.length := by simp [halfRows]
    rw [h3] at h2
    refine Ev.step (fun k => ?_) h2
    simp only [graph_Neighbours.l0]
    rw [if_neg (by omega)]
    rfl
  | d + 1, j, h => by
    have hj : j < l.length := by omega
    obtain ⟨h0, h1, ha⟩ := chk_ok hc
    obtain ⟨f0, f1, f2, f3⟩ := ha j hj
    have ih := nb_l0 N l hl hc d (j + 1) (by omega)
    by_cases he : l[j].f0 = l[j].f1
    · rw [raw_same _ _ _ hj he] at ih
      refine Ev.step (fun k => ?_) ih
      simp only [graph_Neighbours.l0]
      rw [if_pos (by omega), if_pos (by omega), if_pos (by omega), rd_arc l j hj, if_pos he, wrap_succ (by omega)]
    · obtain ⟨a, hA⟩ := Int.eq_ofNat_of_zero_le f0
      obtain ⟨b, hB⟩ := Int.eq_ofNat_of_zero_le f2
      have hab : a ≠ b := fun e => he (by rw [hA, hB, e])
      have ran := rawNb_length l (a : Int) j
      have rbn := rawNb_length l (b : Int) j
      have hlen1 : ((rawRows N.toNat l j).set a (rawNb l (a : Int) j ++ [(b : Int)])).length = N.toNat := by rw [List.length_set, rawRows_length]
      have hgb : ((rawRows N.toNat l j).set a (rawNb l (a : Int) j ++ [(b : Int)]))[b]'(by rw [hlen1]; omega) = rawNb l (b : Int) j := by
        rw [List.getElem_set_ne hab, rawRows_get]
      rw [← raw_succ _ _ _ a b hj hA hB hab (by omega) (by omega)] at ih
      refine Ev.step (fun k => ?_) ih
      simp only [graph_Neighbours.l0]
      rw [if_pos (by omega), if_pos (by omega), if_pos (by omega), rd_arc l j hj, if_neg he, if_pos f0, if_pos (by rw [rawRows_length]; omega), hA, hB, rd_row _ a (by rw [rawRows_length]; omega), rawRows_get, if_pos (by omega)]
      simp only [Option.bind_some, show ((a : Int)).toNat = a by omega, show ((b : Int)).toNat = b by omega]
      rw [if_pos (by omega), if_pos (by rw [rawRows_length]; omega), rd_row _ b (by rw [hlen1]; omega), hgb, if_pos (by omega), wrap_succ (by omega)]
theorem rawRows_zero (n : Nat) (l : List S40) : List.replicate n ([] : List Int) = rawRows n l 0 := by
  apply List.ext_getElem
  · simp [rawRows]
  · intro v h1 h2
    rw [rawRows_get]
    simp [rawNb]
theorem graph_Neighbours.ev (N : Int) (l : List S40) (hl : l.length < 1000000000000) : Ev (fun k => graph_Neighbours.f k N l) (neighS N l) := by
  unfold graph_Neighbours.f neighS
  refine Ev.bind (graph_Check.ev N l hl) ?_
  by_cases h : chk N l = 0
  · obtain ⟨h0, h1, _⟩ := chk_ok h
    simp only [if_pos h, if_pos h0, if_pos (show N.toNat ≤ 11728124029610 by omega), rawRows_zero N.toNat l]
    exact nb_l0 N l hl h l.length 0 (by omega)
  · simp only [if_neg h]
    exact Ev.now _
theorem rnb_l1 (N : Int) (l : List S40) (hl : l.length < 100000000000) (x3 : List (List Int)) (v : Nat) (r : List (List Int)) (hx : x3.length < 1000000000000) (hv : v < 10000000) (hcont : Ev (fun k => mapmakerref37_Neighbours.l0 k (x3 ++ [nbS l (v : Int)]) ((v + 1 : Nat) : Int) N l) r) :
    ∀ d j : Nat, j + d = l.length → Ev (fun k => mapmakerref37_Neighbours.l1 k x3 (v : Int) (setOf (rawNb l (v : Int) j)) (j : Int) N l) r
  | 0, j, h => by
    have hj : j = l.length := by omega
    subst hj
    refine Ev.step (fun k => ?_) hcont
    simp only [mapmakerref37_Neighbours.l1]
    rw [if_neg (by omega), if_pos (by omega), wrap_succ (by omega)]
    rfl
  | d + 1, j, h => by
    have hj : j < l.length := by omega
    have ih := rnb_l1 N l hl x3 v r hx hv hcont d (j + 1) (by omega)
    have hs1 := length_setOf (rawNb l (v : Int) j)
    have hs2 := rawNb_length l (v : Int) j
    have hraw : rawNb l (v : Int) (j + 1) = rawNb l (v : Int) j ++ ((if l[j].f0 = (v : Int) ∧ ¬ l[j].f1 = (v : Int) then [l[j].f1] else []) ++ (if l[j].f1 = (v : Int) ∧ ¬ l[j].f0 = (v : Int) then [l[j].f0] else [])) := by
      rw [← getD_arc l j hj]; rfl
    rw [hraw, setOf_append] at ih
    have hw : ∀ x : Int, Ev (fun k => mapmakerref05_With.f k (setOf (rawNb l (v : Int) j)) x) (ins x (setOf (rawNb l (v : Int) j))) := fun x => mapmakerref05_With.ev _ _ (by omega) (inc_setOf _)
    by_cases h1 : l[j].f0 = (v : Int)
    · by_cases h2 : l[j].f1 = (v : Int)
      · rw [if_neg (fun h => h.2 h2), if_neg (fun h => h.2 h1)] at ih
        have h3 : Ev (fun k => mapmakerref37_Neighbours.j3 k x3 (v : Int) (setOf (rawNb l (v : Int) j)) (j : Int) false N l l[j].f0 l[j].f1) r := by
          refine Ev.step (fun k => ?_) ih
          simp only [mapmakerref37_Neighbours.j3]
          rw [if_neg (by simp), if_pos h2, if_pos h1, wrap_succ (by omega)]
          rfl
        refine Ev.step (fun k => ?_) h3
        simp only [mapmakerref37_Neighbours.l1]
        rw [if_pos (by omega), if_pos (by omega), rd_arc l j hj, if_pos h1]
        rw [show (l[j].f1 != (v : Int)) = false from bne_eq_false_iff_eq.2 h2]
      · rw [if_pos ⟨h1, h2⟩, if_neg (fun h => h2 h.1)] at ih
        have h3 : Ev (fun k => mapmakerref37_Neighbours.j3 k x3 (v : Int) (setOf (rawNb l (v : Int) j)) (j : Int) true N l l[j].f0 l[j].f1) r := by
          refine Ev.step (fun k => ?_) (Ev.bind (hw l[j].f1) (f := fun k t => mapmakerref37_Neighbours.l1 k x3 (v : Int) t (wrap64 ((j : Int) + 1)) N l) (by rw [wrap_succ (show j < 1000000000000000 by omega)]; exact ih))
          simp only [mapmakerref37_Neighbours.j3]
          rw [if_pos trivial]
          simp only [if_neg h2]
        refine Ev.step (fun k => ?_) h3
        simp only [mapmakerref37_Neighbours.l1]
        rw [if_pos (by omega), if_pos (by omega), rd_arc l j hj, if_pos h1]
        rw [show (l[j].f1 != (v : Int)) = true from bne_iff_ne.2 h2]
    · by_cases h2 : l[j].f1 = (v : Int)
      · rw [if_neg (fun h => h1 h.1), if_pos ⟨h2, h1⟩] at ih
        have h3 : Ev (fun k => mapmakerref37_Neighbours.j3 k x3 (v : Int) (setOf (rawNb l (v : Int) j)) (j : Int) false N l l[j].f0 l[j].f1) r := by
          refine Ev.step (fun k => ?_) (Ev.bind (hw l[j].f0) (f := fun k t => mapmakerref37_Neighbours.l1 k x3 (v : Int) t (wrap64 ((j : Int) + 1)) N l) (by rw [wrap_succ (show j < 1000000000000000 by omega)]; exact ih))
          simp only [mapmakerref37_Neighbours.j3]
          rw [if_neg (by simp), if_pos h2, if_neg h1]
        refine Ev.step (fun k => ?_) h3
        simp only [mapmakerref37_Neighbours.l1]
        rw [if_pos (by omega), if_pos (by omega), rd_arc l j hj, if_neg h1]
      · rw [if_neg (fun h => h1 h.1), if_neg (fun h => h2 h.1)] at ih
        have h3 : Ev (fun k => mapmakerref37_Neighbours.j3 k x3 (v : Int) (setOf (rawNb l (v : Int) j)) (j : Int) false N l l[j].f0 l[j].f1) r := by
          refine Ev.step (fun k => ?_) ih
          simp only [mapmakerref37_Neighbours.j3]
          rw [if_neg (by simp), if_neg h2, wrap_succ (by omega)]
          rfl
        refine Ev.step (fun k => ?_) h3
        simp only [mapmakerref37_Neighbours.l1]
        rw [if_pos (by omega), if_pos (by omega), rd_arc l j hj, if_neg h1]
theorem nbRows_snoc (n : Nat) (l : List S40) : nbRows n l ++ [nbS l (n : Int)] = nbRows (n + 1) l := by simp [nbRows, List.range_succ]
theorem rnb_l0 (N : Int) (l : List S40) (hl : l.length < 100000000000) (hc : chk N l = 0) : ∀ d v : Nat, v + d = N.toNat → Ev (fun k => mapmakerref37_Neighbours.l0 k (nbRows v l) (v : Int) N l) (nbRows N.toNat l)
  | 0, v, h => by
    obtain ⟨h0, h1, _⟩ := chk_ok hc
    have hv : v = N.toNat := by omega
    subst hv
    have h2 : Ev (fun k => mapmakerref37_Neighbours.j1 k (nbRows N.toNat l) ((N.toNat : Nat) : Int) false N l) (nbRows N.toNat l) := Ev.step1 fun k => by simp only [mapmakerref37_Neighbours.j1]; rfl
    refine Ev.step (fun k => ?_) h2
    simp only [mapmakerref37_Neighbours.l0]
    rw [if_neg (by omega)]
  | d + 1, v, h => by
    obtain ⟨h0, h1, _⟩ := chk_ok hc
    have ih := rnb_l0 N l hl hc d (v + 1) (by omega)
    rw [← nbRows_snoc] at ih
    have h3 := rnb_l1 N l hl (nbRows v l) v _ (by rw [nbRows_length]; omega) (by omega) ih l.length 0 (by omega)
    have h2 : Ev (fun k => mapmakerref37_Neighbours.j1 k (nbRows v l) (v : Int) true N l) (nbRows N.toNat l) := Ev.step (fun k => by simp only [mapmakerref37_Neighbours.j1]; rw [if_pos trivial]; rfl) h3
    have hck := mapmakerref37_Check.ev N l (by omega)
    rw [hc] at hck
    refine Ev.step (fun k => ?_) (Ev.bind hck (f := fun k t => mapmakerref37_Neighbours.j1 k (nbRows v l) (v : Int) (t == 0) N l) (by rw [show ((0 : Int) == 0) = true from rfl]; exact h2))
    simp only [mapmakerref37_Neighbours.l0]
    rw [if_pos (by omega)]
theorem mapmakerref37_Neighbours.ev (N : Int) (l : List S40) (hl : l.length < 100000000000) : Ev (fun k => mapmakerref37_Neighbours.f k N l) (neighS N l) := by
  unfold mapmakerref37_Neighbours.f neighS
  by_cases h : chk N l = 0
  · rw [if_pos h]
    exact rnb_l0 N l hl h N.toNat 0 (by omega)
  · rw [if_neg h]
    have hj : ∀ r : List (List Int), Ev (fun k => mapmakerref37_Neighbours.j1 k r 0 false N l) r := fun r => Ev.step1 fun k => by simp only [mapmakerref37_Neighbours.j1]; rfl
    by_cases h0 : 0 < N
    · have hck := mapmakerref37_Check.ev N l (by omega)
      have hb : (chk N l == 0) = false := by simpa using h
      refine Ev.step (fun k => ?_) (Ev.bind hck (f := fun k t => mapmakerref37_Neighbours.j1 k [] 0 (t == 0) N l) (by rw [hb]; exact hj []))
      simp only [mapmakerref37_Neighbours.l0]
      rw [if_pos h0]
    · refine Ev.step (fun k => ?_) (hj [])
      simp only [mapmakerref37_Neighbours.l0]
      rw [if_neg h0]
theorem neighS_small (N : Int) (l : List S40) (hl : l.length < 100000000000) : (neighS N l).length < 1000000000000 ∧ ∀ r ∈ neighS N l, r.length < 1000000000000 := by
  unfold neighS
  split
  · rename_i h
    obtain ⟨h0, h1, _⟩ := chk_ok h
    refine ⟨by rw [nbRows_length]; omega, fun r hr => ?_⟩
    obtain ⟨v, hv, rfl⟩ := List.mem_map.1 hr
    have h2 := rawNb_length l (v : Int) l.length
    have h3 := length_setOf (rawNb l (v : Int) l.length)
    show (setOf (rawNb l (v : Int) l.length)).length < _
    omega
  · exact ⟨by simp, fun r hr => by simp at hr⟩
end Go.Proofs.Ytnnknbghfbjcnaa.Print
