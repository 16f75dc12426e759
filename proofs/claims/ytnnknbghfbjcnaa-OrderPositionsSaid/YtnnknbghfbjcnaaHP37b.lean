/- The law GraphArcs: Out and In of a graph answer as the reference does, for any graph of at most 40 vertices (or more than 2^20) and 60 arcs. -/
import Derived.Test.YtnnknbghfbjcnaaHP37a
import Derived.Test.YtnnknbghfbjcnaaF27
import Derived.Test.YtnnknbghfbjcnaaF29
import Derived.Test.YtnnknbghfbjcnaaF28
import Derived.Test.YtnnknbghfbjcnaaF30
import Derived.Test.YtnnknbghfbjcnaaF16
import Derived.Test.YtnnknbghfbjcnaaF19
namespace Go.Proofs.Ytnnknbghfbjcnaa.Print
open Go.RowKit Go.Proofs.YtnnknbghfbjcnaaW.PrintWords Go.Proofs.YtnnknbghfbjcnaaW.PrintLast Go.Proofs.YtnnknbghfbjcnaaW.PrintMore
set_option linter.unusedVariables false
set_option linter.unusedSimpArgs false

theorem rd_int (l : List Int) (j : Nat) (h : j < l.length) : rd l (j : Int) = l[j] := by
  unfold rd
  simp [List.getD_eq_getElem?_getD, List.getElem?_eq_getElem h]
theorem rd_row (l : List (List Int)) (j : Nat) (h : j < l.length) : rd_L2 l (j : Int) = l[j] := by
  unfold rd_L2
  simp [List.getD_eq_getElem?_getD, List.getElem?_eq_getElem h]
/-! ### Equal lists -/
theorem equal_l0 (a : List Int) (ha : a.length < 1000000000000) : ∀ d j : Nat, j + d = a.length → Ev (fun k => mapmakerref05_Equal.l0 k a a (j : Int)) true
  | 0, j, h => by
    refine Ev.step1 fun k => ?_
    simp only [mapmakerref05_Equal.l0]
    rw [if_neg (by omega)]
  | d + 1, j, h => by
    refine Ev.step (fun k => ?_) (equal_l0 a ha d (j + 1) (by omega))
    simp only [mapmakerref05_Equal.l0]
    rw [if_pos (by omega), if_pos (by omega), if_pos (by omega), if_pos trivial, wrap_succ (by omega)]
theorem equal_same (a : List Int) (ha : a.length < 1000000000000) : Ev (fun k => mapmakerref05_Equal.f k a a) true := by
  unfold mapmakerref05_Equal.f
  simp only [if_true]
  exact equal_l0 a ha a.length 0 (by omega)
theorem lists_l0 (a : List (List Int)) (ha : a.length < 1000000000000) (hr : ∀ r ∈ a, r.length < 1000000000000) : ∀ d j : Nat, j + d = a.length → Ev (fun k => mapmakerref37_Lists.l0 k a a (j : Int)) true
  | 0, j, h => by
    refine Ev.step1 fun k => ?_
    simp only [mapmakerref37_Lists.l0]
    rw [if_neg (by omega)]
  | d + 1, j, h => by
    have hj : j < a.length := by omega
    have h1 := equal_same a[j] (hr _ (List.getElem_mem hj))
    have h2 := Ev.bind h1 (f := fun k t => if t = true then mapmakerref37_Lists.l0 k a a (wrap64 ((j : Int) + 1)) else some false) (by
      simp only [if_true, wrap_succ (show j < 1000000000000000 by omega)]
      exact lists_l0 a ha hr d (j + 1) (by omega))
    refine Ev.step (fun k => ?_) h2
    simp only [mapmakerref37_Lists.l0]
    rw [if_pos (by omega), if_pos (by omega), if_pos (by omega), rd_row a j hj]
theorem lists_same (a : List (List Int)) (ha : a.length < 1000000000000) (hr : ∀ r ∈ a, r.length < 1000000000000) : Ev (fun k => mapmakerref37_Lists.f k a a) true := by
  unfold mapmakerref37_Lists.f
  simp only [if_true]
  exact lists_l0 a ha hr a.length 0 (by omega)

/-! ### Out -/
/-- The numbers of the first j arcs that leave v. -/
def outIdx (l : List S40) (v : Int) : Nat → List Int
  | 0 => []
  | j + 1 => outIdx l v j ++ (if (l.getD j z40).f0 = v then [(j : Int)] else [])
def outRows (n : Nat) (l : List S40) (j : Nat) : List (List Int) := (List.range n).map fun (v : Nat) => outIdx l (v : Int) j
def outS (N : Int) (l : List S40) : List (List Int) := if chk N l = 0 then outRows N.toNat l l.length else []
theorem outIdx_length (l : List S40) (v : Int) : ∀ j, (outIdx l v j).length ≤ j
  | 0 => by simp [outIdx]
  | j + 1 => by
    have := outIdx_length l v j
    unfold outIdx
    split <;> simp <;> omega
theorem outRows_length (n : Nat) (l : List S40) (j : Nat) : (outRows n l j).length = n := by simp [outRows]
theorem outRows_get (n : Nat) (l : List S40) (j v : Nat) (h : v < (outRows n l j).length) : (outRows n l j)[v] = outIdx l (v : Int) j := by simp [outRows]
theorem getD_arc (l : List S40) (j : Nat) (h : j < l.length) : l.getD j z40 = l[j] := by simp [List.getD_eq_getElem?_getD, List.getElem?_eq_getElem h]
theorem chk_ok {N : Int} {l : List S40} (h : chk N l = 0) : 0 ≤ N ∧ N ≤ 1048576 ∧ ∀ (j : Nat) (hj : j < l.length), 0 ≤ l[j].f0 ∧ l[j].f0 < N ∧ 0 ≤ l[j].f1 ∧ l[j].f1 < N := by
  unfold chk at h
  split at h
  · cases h
  · rename_i h1
    refine ⟨by omega, by omega, fun j hj => ?_⟩
    unfold chkL at h
    split at h
    · rename_i h2
      have := List.all_eq_true.1 h2 _ (List.getElem_mem hj)
      unfold okArc at this
      simp only [Bool.and_eq_true, decide_eq_true_eq] at this
      exact ⟨this.1.1.1, this.1.1.2, this.1.2, this.2⟩
    · cases h
theorem outRows_succ (n : Nat) (l : List S40) (j u : Nat) (hj : j < l.length) (hu : l[j].f0 = (u : Int)) (hn : u < n) : (outRows n l j).set u (outIdx l (u : Int) j ++ [(j : Int)]) = outRows n l (j + 1) := by
  apply List.ext_getElem
  · simp [outRows]
  · intro v h1 h2
    rw [List.getElem_set, outRows_get, outRows_get]
    show _ = outIdx l (v : Int) j ++ (if (l.getD j z40).f0 = (v : Int) then [(j : Int)] else [])
    rw [getD_arc l j hj, hu]
    by_cases e : u = v
    · subst e; simp
    · have : ¬ (u : Int) = (v : Int) := by omega
      rw [if_neg e, if_neg this, List.append_nil]
theorem out_l0 (N : Int) (l : List S40) (hl : l.length < 1000000000000) (hc : chk N l = 0) : ∀ d j : Nat, j + d = l.length → Ev (fun k => graph_Out.l0 k (outRows N.toNat l j) l (l.length : Int) (j : Int)) (outRows N.toNat l l.length)
  | 0, j, h => by
    have hj : j = l.length := by omega
    subst hj
    refine Ev.step1 fun k => ?_
    simp only [graph_Out.l0]
    rw [if_neg (by omega)]
  | d + 1, j, h => by
    have hj : j < l.length := by omega
    obtain ⟨h0, h1, ha⟩ := chk_ok hc
    obtain ⟨f0, f1, _, _⟩ := ha j hj
    obtain ⟨u, hu⟩ := Int.eq_ofNat_of_zero_le f0
    have hun : u < N.toNat := by omega
    have ih := out_l0 N l hl hc d (j + 1) (by omega)
    have hlen := outIdx_length l (u : Int) j
    refine Ev.step (fun k => ?_) ih
    simp only [graph_Out.l0]
    rw [if_pos (by omega), if_pos (by omega), if_pos (by omega), rd_arc l j hj, if_pos f0, if_pos (by rw [outRows_length]; omega), hu, rd_row _ u (by rw [outRows_length]; exact hun), outRows_get,
      if_pos (by omega), show ((u : Int)).toNat = u by omega, outRows_succ N.toNat l j u hj hu hun, wrap_succ (by omega)]
theorem outRows_zero (n : Nat) (l : List S40) : List.replicate n ([] : List Int) = outRows n l 0 := by
  apply List.ext_getElem
  · simp [outRows]
  · intro v h1 h2
    rw [outRows_get]
    simp [outIdx]
theorem graph_Out.ev (N : Int) (l : List S40) (hl : l.length < 1000000000000) : Ev (fun k => graph_Out.f k N l) (outS N l) := by
  unfold graph_Out.f outS
  refine Ev.bind (graph_Check.ev N l hl) ?_
  by_cases h : chk N l = 0
  · obtain ⟨h0, h1, _⟩ := chk_ok h
    simp only [if_pos h, if_pos h0, if_pos (show N.toNat ≤ 11728124029610 by omega), outRows_zero N.toNat l]
    exact out_l0 N l hl h l.length 0 (by omega)
  · simp only [if_neg h]
    exact Ev.now _
theorem rout_l1 (N : Int) (l : List S40) (hl : l.length < 1000000000000) (x3 : List (List Int)) (v : Nat) (r : List (List Int)) (hx : x3.length < 1000000000000) (hv : v < 10000000) (hcont : Ev (fun k => mapmakerref37_Out.l0 k (x3 ++ [outIdx l (v : Int) l.length]) ((v + 1 : Nat) : Int) N l) r) :
    ∀ d j : Nat, j + d = l.length → Ev (fun k => mapmakerref37_Out.l1 k x3 (v : Int) (outIdx l (v : Int) j) (j : Int) N l) r
  | 0, j, h => by
    have hj : j = l.length := by omega
    subst hj
    refine Ev.step (fun k => ?_) hcont
    simp only [mapmakerref37_Out.l1]
    rw [if_neg (by omega), if_pos (by omega), wrap_succ (by omega)]
  | d + 1, j, h => by
    have hj : j < l.length := by omega
    have ih := rout_l1 N l hl x3 v r hx hv hcont d (j + 1) (by omega)
    have hlen := outIdx_length l (v : Int) j
    have hs : outIdx l (v : Int) (j + 1) = outIdx l (v : Int) j ++ (if l[j].f0 = (v : Int) then [(j : Int)] else []) := by
      rw [← getD_arc l j hj]; rfl
    rw [hs] at ih
    refine Ev.step (fun k => ?_) ih
    simp only [mapmakerref37_Out.l1]
    rw [if_pos (by omega), if_pos (by omega), rd_arc l j hj]
    by_cases e : l[j].f0 = (v : Int)
    · rw [if_pos e, if_pos e, if_pos (by omega), wrap_succ (by omega)]
    · rw [if_neg e, if_neg e, List.append_nil, wrap_succ (by omega)]
theorem outRows_snoc (n : Nat) (l : List S40) (j : Nat) : outRows n l j ++ [outIdx l (n : Int) j] = outRows (n + 1) l j := by simp [outRows, List.range_succ]
theorem rout_l0 (N : Int) (l : List S40) (hl : l.length < 1000000000000) (hc : chk N l = 0) : ∀ d v : Nat, v + d = N.toNat → Ev (fun k => mapmakerref37_Out.l0 k (outRows v l l.length) (v : Int) N l) (outRows N.toNat l l.length)
  | 0, v, h => by
    obtain ⟨h0, h1, _⟩ := chk_ok hc
    have hv : v = N.toNat := by omega
    subst hv
    have h2 : Ev (fun k => mapmakerref37_Out.j1 k (outRows N.toNat l l.length) ((N.toNat : Nat) : Int) false N l) (outRows N.toNat l l.length) := Ev.step1 fun k => by simp only [mapmakerref37_Out.j1]; rfl
    refine Ev.step (fun k => ?_) h2
    simp only [mapmakerref37_Out.l0]
    rw [if_neg (by omega)]
  | d + 1, v, h => by
    obtain ⟨h0, h1, _⟩ := chk_ok hc
    have ih := rout_l0 N l hl hc d (v + 1) (by omega)
    rw [← outRows_snoc] at ih
    have h3 := rout_l1 N l hl (outRows v l l.length) v _ (by rw [outRows_length]; omega) (by omega) ih l.length 0 (by omega)
    have h2 : Ev (fun k => mapmakerref37_Out.j1 k (outRows v l l.length) (v : Int) true N l) (outRows N.toNat l l.length) := Ev.step (fun k => by simp only [mapmakerref37_Out.j1]; rw [if_pos trivial]; rfl) h3
    have hck := mapmakerref37_Check.ev N l hl
    rw [hc] at hck
    refine Ev.step (fun k => ?_) (Ev.bind hck (f := fun k t => mapmakerref37_Out.j1 k (outRows v l l.length) (v : Int) (t == 0) N l) (by rw [show ((0 : Int) == 0) = true from rfl]; exact h2))
    simp only [mapmakerref37_Out.l0]
    rw [if_pos (by omega)]
theorem mapmakerref37_Out.ev (N : Int) (l : List S40) (hl : l.length < 1000000000000) : Ev (fun k => mapmakerref37_Out.f k N l) (outS N l) := by
  unfold mapmakerref37_Out.f outS
  by_cases h : chk N l = 0
  · rw [if_pos h]
    have := rout_l0 N l hl h N.toNat 0 (by omega)
    exact this
  · rw [if_neg h]
    have hj : ∀ r : List (List Int), Ev (fun k => mapmakerref37_Out.j1 k r 0 false N l) r := fun r => Ev.step1 fun k => by simp only [mapmakerref37_Out.j1]; rfl
    by_cases h0 : 0 < N
    · have hck := mapmakerref37_Check.ev N l hl
      have hb : (chk N l == 0) = false := by simpa using h
      refine Ev.step (fun k => ?_) (Ev.bind hck (f := fun k t => mapmakerref37_Out.j1 k [] 0 (t == 0) N l) (by rw [hb]; exact hj []))
      simp only [mapmakerref37_Out.l0]
      rw [if_pos h0]
    · refine Ev.step (fun k => ?_) (hj [])
      simp only [mapmakerref37_Out.l0]
      rw [if_neg h0]
theorem outS_small (N : Int) (l : List S40) (hl : l.length < 1000000000000) : (outS N l).length < 1000000000000 ∧ ∀ r ∈ outS N l, r.length < 1000000000000 := by
  unfold outS
  split
  · rename_i h
    obtain ⟨h0, h1, _⟩ := chk_ok h
    refine ⟨by rw [outRows_length]; omega, fun r hr => ?_⟩
    obtain ⟨v, hv, rfl⟩ := List.mem_map.1 hr
    have := outIdx_length l (v : Int) l.length
    omega
  · exact ⟨by simp, fun r hr => by simp at hr⟩
theorem rev_small (N : Int) (l : List S40) (hl : l.length < 1000000000000) : (rev N l).2.length < 1000000000000 := by
  unfold rev
  split
  · simpa using hl
  · simp
/-- The arcs that enter each vertex. -/
def inS (N : Int) (l : List S40) : List (List Int) := outS (rev N l).1 (rev N l).2
theorem graph_In.ev (N : Int) (l : List S40) (hl : l.length < 1000000000000) : Ev (fun k => graph_In.f k N l) (inS N l) := by
  unfold graph_In.f inS
  exact Ev.bind (graph_Reverse.ev N l hl) (Ev.bind (graph_Out.ev _ _ (rev_small N l hl)) (Ev.now _))
theorem mapmakerref37_In.ev (N : Int) (l : List S40) (hl : l.length < 1000000000000) : Ev (fun k => mapmakerref37_In.f k N l) (inS N l) := by
  unfold mapmakerref37_In.f inS
  exact Ev.bind (mapmakerref37_Reverse.ev N l hl) (Ev.bind (mapmakerref37_Out.ev _ _ (rev_small N l hl)) (Ev.now _))
end Go.Proofs.Ytnnknbghfbjcnaa.Print
