/- GraphSymmetric: Neighbours is symmetric and without loops; every arc is once in Out and once in In; neighbours are in one part, named by its smallest vertex. -/
import Derived.Test.YtnnknbghfbjcnaaHP37f
import Derived.Test.YtnnknbghfbjcnaaF7
namespace Go.Proofs.Ytnnknbghfbjcnaa.Print
open Go.RowKit Go.Proofs.YtnnknbghfbjcnaaW.PrintWords Go.Proofs.YtnnknbghfbjcnaaW.PrintLast Go.Proofs.YtnnknbghfbjcnaaW.PrintMore
set_option linter.unusedVariables false
set_option linter.unusedSimpArgs false

theorem wrap_add {a b : Nat} (h : a + b < 1000000000000000) : wrap64 ((a : Int) + (b : Int)) = ((a + b : Nat) : Int) := by unfold wrap64; omega
theorem mem_outIdx {l : List S40} {v x : Int} : ∀ j, j ≤ l.length → (x ∈ outIdx l v j ↔ ∃ (i : Nat) (hi : i < l.length), i < j ∧ x = (i : Int) ∧ l[i].f0 = v)
  | 0, _ => by
    constructor
    · intro h; cases h
    · rintro ⟨i, _, hi, _⟩; omega
  | j + 1, h => by
    have hj : j < l.length := by omega
    rw [outIdx, List.mem_append, mem_outIdx j (by omega), getD_arc l j hj]
    constructor
    · rintro (⟨i, hi, hij, h1, h2⟩ | h1)
      · exact ⟨i, hi, by omega, h1, h2⟩
      · split at h1
        · rename_i hc
          exact ⟨j, hj, by omega, List.mem_singleton.1 h1, hc⟩
        · cases h1
    · rintro ⟨i, hi, hij, h1, h2⟩
      by_cases e : i = j
      · subst e
        right
        rw [if_pos h2, h1]
        exact List.mem_singleton.2 rfl
      · exact .inl ⟨i, hi, by omega, h1, h2⟩
/-- How many numbers the first v rows of outIdx hold. -/
def outLen (l : List S40) (j : Nat) : Nat → Nat
  | 0 => 0
  | v + 1 => outLen l j v + (outIdx l (v : Int) j).length
theorem outLen_zero (l : List S40) : ∀ v, outLen l 0 v = 0
  | 0 => rfl
  | v + 1 => by
    have := outLen_zero l v
    simp [outLen, outIdx, this]
theorem outLen_succ {l : List S40} {j u : Nat} (hj : j < l.length) (hu : l[j].f0 = (u : Int)) : ∀ v, outLen l (j + 1) v = outLen l j v + (if u < v then 1 else 0)
  | 0 => by simp [outLen]
  | v + 1 => by
    have ih := outLen_succ hj hu v
    have e : (outIdx l (v : Int) (j + 1)).length = (outIdx l (v : Int) j).length + (if u = v then 1 else 0) := by
      rw [outIdx, getD_arc l j hj, hu, List.length_append]
      by_cases e : u = v
      · subst e
        simp
      · have e' : ¬ (u : Int) = (v : Int) := by omega
        simp [e, e']
    show outLen l (j + 1) v + (outIdx l (v : Int) (j + 1)).length = outLen l j v + (outIdx l (v : Int) j).length + _
    rw [ih, e]
    by_cases h1 : u < v
    · have h2 : u ≠ v := by omega
      have h3 : u < v + 1 := by omega
      simp [h1, h2, h3]
      omega
    · by_cases h2 : u = v
      · subst h2
        simp
        omega
      · have h3 : ¬ u < v + 1 := by omega
        simp [h1, h2, h3]
theorem outLen_all {n : Nat} {l : List S40} (h : ∀ (i : Nat) (hi : i < l.length), 0 ≤ l[i].f0 ∧ l[i].f0 < (n : Int)) : ∀ j, j ≤ l.length → outLen l j n = j
  | 0, _ => outLen_zero l n
  | j + 1, hj => by
    obtain ⟨h0, h1⟩ := h j (by omega)
    rw [outLen_succ (u := l[j].f0.toNat) (by omega) (by omega), outLen_all h j (by omega), if_pos (by omega)]
theorem outLen_le {l : List S40} (j : Nat) {v n : Nat} (h : v ≤ n) : outLen l j v ≤ outLen l j n := by
  obtain ⟨d, rfl⟩ := Nat.exists_eq_add_of_le h
  clear h
  induction d with
  | zero => exact Nat.le_refl _
  | succ d ih => exact Nat.le_trans ih (Nat.le_add_right _ _)
theorem outRows_rd (n : Nat) (l : List S40) (j v : Nat) (hv : v < n) : rd_L2 (outRows n l j) (v : Int) = outIdx l (v : Int) j := by
  rw [rd_row _ v (by rw [outRows_length]; exact hv), outRows_get]
theorem nbRows_rd (n : Nat) (l : List S40) (v : Nat) (hv : v < n) : rd_L2 (nbRows n l) (v : Int) = nbS l (v : Int) := by
  rw [rd_row _ v (by rw [nbRows_length]; exact hv), nbRows_get]
theorem repS_length (n : Nat) (l : List S40) : (repS n l).length = n := by simp [repS]
theorem repS_rd (n : Nat) (l : List S40) (v : Nat) (hv : v < n) : rd (repS n l) (v : Int) = ((rep (Adj l) v : Nat) : Int) := by
  rw [rd_int _ v (by rw [repS_length]; exact hv)]
  simp [repS]
theorem nbS_small (l : List S40) (hl : l.length < 100000000000) (v : Int) : (nbS l v).length < 1000000000000 := by
  have h2 := rawNb_length l v l.length
  have h3 := length_setOf (rawNb l v l.length)
  show (setOf (rawNb l v l.length)).length < _
  omega

section
variable (N : Int) (l : List S40) (hl : l.length < 100000000000) (hc : chk N l = 0)
include hl hc
theorem sym_l2 (v : Nat) (hv : v < N.toNat) (x7 x8 : Int)
    (hcont : Ev (fun k => mapmakerlaw37_GraphSymmetric.l0 k (nbRows N.toNat l) (outRows N.toNat l l.length) (outRows N.toNat (l.map flip) l.length) (repS N.toNat l) x7 x8 ((v + 1 : Nat) : Int) N l) true) :
    ∀ d i : Nat, i + d = (outIdx l (v : Int) l.length).length → Ev (fun k => mapmakerlaw37_GraphSymmetric.l2 k (nbRows N.toNat l) (outRows N.toNat l l.length) (outRows N.toNat (l.map flip) l.length) (repS N.toNat l) x7 x8 (v : Int) (i : Int) N l) true
  | 0, i, h => by
    obtain ⟨h0, h1, _⟩ := chk_ok hc
    refine Ev.step (fun k => ?_) hcont
    simp only [mapmakerlaw37_GraphSymmetric.l2]
    rw [outRows_rd _ _ _ v hv, outRows_length, if_pos (by omega), if_pos (by omega), if_neg (by omega), wrap_succ (by omega)]
  | d + 1, i, h => by
    obtain ⟨h0, h1, har⟩ := chk_ok hc
    have hi : i < (outIdx l (v : Int) l.length).length := by omega
    have hlen := outIdx_length l (v : Int) l.length
    obtain ⟨a, ha, _, hx, hf⟩ := (mem_outIdx l.length (Nat.le_refl _)).1 (List.getElem_mem hi)
    obtain ⟨f0, f1, f2, f3⟩ := har a ha
    obtain ⟨u, hu⟩ : ∃ u : Nat, l[a].f1 = (u : Int) := ⟨l[a].f1.toNat, by omega⟩
    have hun : u < N.toNat := by omega
    have hrd : rd (outIdx l (v : Int) l.length) (i : Int) = (a : Int) := by rw [rd_int _ i hi, hx]
    have hin : (a : Int) ∈ outIdx (l.map flip) (u : Int) l.length := by
      refine (mem_outIdx (l := l.map flip) l.length (by simp)).2 ⟨a, by simpa using ha, ha, rfl, ?_⟩
      rw [List.getElem_map]
      exact hu
    have hfl := outIdx_length (l.map flip) (u : Int) l.length
    have hHas := mapmakerref05_Has.ev (outIdx (l.map flip) (u : Int) l.length) (a : Int) (by omega)
    rw [decide_eq_true hin] at hHas
    have ih := sym_l2 v hv x7 x8 hcont d (i + 1) (by omega)
    refine Ev.step (fun k => ?_) (Ev.bind hHas (f := fun k t => if t = true then mapmakerlaw37_GraphSymmetric.l2 k (nbRows N.toNat l) (outRows N.toNat l l.length) (outRows N.toNat (l.map flip) l.length) (repS N.toNat l) x7 x8 (v : Int) (wrap64 ((i : Int) + 1)) N l else some false) (by simp only [if_true]; rw [wrap_succ (show i < 1000000000000000 by omega)]; exact ih))
    simp only [mapmakerlaw37_GraphSymmetric.l2]
    rw [outRows_rd _ _ _ v hv, outRows_length, outRows_length, hrd, rd_arc l a ha, hf, hu, outRows_rd _ _ _ u hun, if_pos (by omega), if_pos (by omega), if_pos (by omega), if_pos (by omega), if_neg (by omega), if_neg (by omega), if_pos (by omega), if_pos (by omega), if_pos rfl, if_pos (by omega), if_pos (by omega)]
theorem sym_l1 (v : Nat) (hv : v < N.toNat) (x7 x8 : Int)
    (hcont : Ev (fun k => mapmakerlaw37_GraphSymmetric.l0 k (nbRows N.toNat l) (outRows N.toNat l l.length) (outRows N.toNat (l.map flip) l.length) (repS N.toNat l) x7 x8 ((v + 1 : Nat) : Int) N l) true) :
    ∀ d i : Nat, i + d = (nbS l (v : Int)).length → Ev (fun k => mapmakerlaw37_GraphSymmetric.l1 k (nbRows N.toNat l) (outRows N.toNat l l.length) (outRows N.toNat (l.map flip) l.length) (repS N.toNat l) x7 x8 (v : Int) (i : Int) N l) true
  | 0, i, h => by
    obtain ⟨h0, h1, _⟩ := chk_ok hc
    refine Ev.step (fun k => ?_) (sym_l2 N l hl hc v hv x7 x8 hcont (outIdx l (v : Int) l.length).length 0 (by omega))
    simp only [mapmakerlaw37_GraphSymmetric.l1]
    rw [nbRows_rd _ _ v hv, nbRows_length, if_pos (by omega), if_pos (by omega), if_neg (by omega)]
    rfl
  | d + 1, i, h => by
    obtain ⟨h0, h1, har⟩ := chk_ok hc
    have hi : i < (nbS l (v : Int)).length := by omega
    have hsm := nbS_small l hl (v : Int)
    obtain ⟨y, hy, hyn⟩ := nbS_nat hc (List.getElem_mem hi)
    have ha : Adj l v y := mem_nbS.1 (by rw [← hy]; exact List.getElem_mem hi)
    have hback : (v : Int) ∈ nbS l (y : Int) := mem_nbS.2 ha.symm
    have hrep : rep (Adj l) y = rep (Adj l) v := (rep_eq (@Adj.symm l) (Conn.one ha)).symm
    have hrd : rd (nbS l (v : Int)) (i : Int) = (y : Int) := by rw [rd_int _ i hi, hy]
    have hHas := mapmakerref05_Has.ev (nbS l (y : Int)) (v : Int) (nbS_small l hl _)
    rw [decide_eq_true hback] at hHas
    have ih := sym_l1 v hv x7 x8 hcont d (i + 1) (by omega)
    refine Ev.step (fun k => ?_) (Ev.bind hHas (f := fun k t => if t = true then mapmakerlaw37_GraphSymmetric.l1 k (nbRows N.toNat l) (outRows N.toNat l l.length) (outRows N.toNat (l.map flip) l.length) (repS N.toNat l) x7 x8 (v : Int) (wrap64 ((i : Int) + 1)) N l else some false) (by simp only [if_true]; rw [wrap_succ (show i < 1000000000000000 by omega)]; exact ih))
    simp only [mapmakerlaw37_GraphSymmetric.l1]
    rw [nbRows_rd _ _ v hv, nbRows_length, hrd, nbRows_rd _ _ y hyn, repS_length, repS_rd _ _ y hyn, repS_rd _ _ v hv, hrep, if_pos (by omega), if_pos (by omega), if_pos (by omega), if_pos (by omega), if_neg (by omega), if_neg (by omega), if_pos (by omega), if_pos (by omega)]
    simp only [show ((y : Int) < (N.toNat : Int)) by omega, show ((v : Int) < (N.toNat : Int)) by omega, if_true]
theorem sym_l0 (hlives : Ev (fun k => mapmakerlaw37_lives.f k) true) : ∀ d v : Nat, v + d = N.toNat →
    Ev (fun k => mapmakerlaw37_GraphSymmetric.l0 k (nbRows N.toNat l) (outRows N.toNat l l.length) (outRows N.toNat (l.map flip) l.length) (repS N.toNat l) (outLen l l.length v : Int) (outLen (l.map flip) l.length v : Int) (v : Int) N l) true
  | 0, v, h => by
    obtain ⟨h0, h1, har⟩ := chk_ok hc
    obtain ⟨_, _, har2⟩ := chk_ok (N := N) (l := l.map flip) (by rw [chk_flip]; exact hc)
    have hv : v = N.toNat := by omega
    subst hv
    have e1 : outLen l l.length N.toNat = l.length := outLen_all (fun i hi => by have := har i hi; omega) l.length (Nat.le_refl _)
    have e2 : outLen (l.map flip) l.length N.toNat = l.length := outLen_all (fun i hi => by have := har2 i hi; omega) l.length (by simp)
    refine Ev.step (fun k => ?_) (Ev.bind hlives (f := fun _ t => some t) (Ev.now _))
    simp only [mapmakerlaw37_GraphSymmetric.l0]
    rw [e1, e2, if_neg (by omega), if_pos rfl, if_pos rfl]
  | d + 1, v, h => by
    obtain ⟨h0, h1, har⟩ := chk_ok hc
    obtain ⟨_, _, har2⟩ := chk_ok (N := N) (l := l.map flip) (by rw [chk_flip]; exact hc)
    have hv : v < N.toNat := by omega
    have e1 : outLen l l.length N.toNat = l.length := outLen_all (fun i hi => by have := har i hi; omega) l.length (Nat.le_refl _)
    have e2 : outLen (l.map flip) l.length N.toNat = l.length := outLen_all (fun i hi => by have := har2 i hi; omega) l.length (by simp)
    have b1 := outLen_le (l := l) l.length (show v + 1 ≤ N.toNat by omega)
    have b2 := outLen_le (l := l.map flip) l.length (show v + 1 ≤ N.toNat by omega)
    have u1 : outLen l l.length (v + 1) = outLen l l.length v + (outIdx l (v : Int) l.length).length := rfl
    have u2 : outLen (l.map flip) l.length (v + 1) = outLen (l.map flip) l.length v + (outIdx (l.map flip) (v : Int) l.length).length := rfl
    have ih := sym_l0 hlives d (v + 1) (by omega)
    have h3 := sym_l1 N l hl hc v hv _ _ ih (nbS l (v : Int)).length 0 (by omega)
    have hrl := rep_le_self (Adj l) v
    have hrr := rep_rep (@Adj.symm l) v
    have hno : ¬ (v : Int) ∈ nbS l (v : Int) := fun h => (mem_nbS.1 h).1 rfl
    have hHas := mapmakerref05_Has.ev (nbS l (v : Int)) (v : Int) (nbS_small l hl _)
    rw [decide_eq_false hno] at hHas
    have h4 : Ev (fun k => mapmakerlaw37_GraphSymmetric.j3 k (nbRows N.toNat l) (outRows N.toNat l l.length) (outRows N.toNat (l.map flip) l.length) (repS N.toNat l) ((outLen l l.length (v + 1) : Nat) : Int) ((outLen (l.map flip) l.length (v + 1) : Nat) : Int) (v : Int) false N l) true := by
      refine Ev.step (fun k => ?_) h3
      simp only [mapmakerlaw37_GraphSymmetric.j3]
      rw [if_neg (by decide)]
      rfl
    refine Ev.step (fun k => ?_) (Ev.bind hHas (f := fun k t => mapmakerlaw37_GraphSymmetric.j3 k (nbRows N.toNat l) (outRows N.toNat l l.length) (outRows N.toNat (l.map flip) l.length) (repS N.toNat l) ((outLen l l.length (v + 1) : Nat) : Int) ((outLen (l.map flip) l.length (v + 1) : Nat) : Int) (v : Int) t N l) h4)
    simp only [mapmakerlaw37_GraphSymmetric.l0]
    rw [outRows_rd _ _ _ v hv, outRows_rd _ _ _ v hv, outRows_length, outRows_length, repS_length, nbRows_length, repS_rd _ _ v hv, repS_rd _ _ (rep (Adj l) v) (by omega), hrr, nbRows_rd _ _ v hv, wrap_add (by omega), wrap_add (by omega), if_pos (by omega), if_pos (by omega), if_pos (by omega), if_pos (by omega), if_pos (by omega), if_neg (by omega), if_neg (by omega), if_pos (by omega), if_pos (by omega), if_pos rfl, if_pos (by omega), u1, u2]
end
theorem GraphSymmetric_pure : mapmakerlaw37_GraphSymmetric.Pure := by
  intro N l _ _
  refine Ev.rounds ?_
  unfold mapmakerlaw37_GraphSymmetric.f
  obtain ⟨b, hb, hfew⟩ := few37 N l
  simp only [hb, Option.bind_some]
  have hskip : Ev (fun k => mapmakerlaw37_GraphSymmetric.j0 k true N l) true := by
    refine Ev.step (fun k => by rw [mapmakerlaw37_GraphSymmetric.j0, if_pos rfl]) ?_
    exact Ev.bind lives37 (Ev.now _)
  cases b with
  | false =>
    simp only [Bool.false_eq_true, if_false]
    exact hskip
  | true =>
    have hl : l.length < 100000000000 := by have := (hfew rfl).1; omega
    simp only [if_true]
    refine Ev.bind (graph_Check.ev N l (by omega)) ?_
    by_cases hc : chk N l = 0
    · obtain ⟨h0, h1, _⟩ := chk_ok hc
      have hn : neighS N l = nbRows N.toNat l := if_pos hc
      have ho : outS N l = outRows N.toNat l l.length := if_pos hc
      have hi : inS N l = outRows N.toNat (l.map flip) l.length := by
        have hr : rev N l = (N, l.map flip) := by unfold rev; rw [if_pos hc]
        unfold inS outS
        rw [hr]
        show (if chk N (l.map flip) = 0 then _ else _) = _
        rw [chk_flip, if_pos hc, List.length_map]
      have hp : partsS N l = repS N.toNat l := if_pos hc
      simp only [hc]
      refine Ev.step (fun k => by rw [mapmakerlaw37_GraphSymmetric.j0, if_neg (by decide)]) ?_
      refine Ev.bind (graph_Neighbours.ev N l (by omega)) ?_
      refine Ev.bind (graph_Out.ev N l (by omega)) ?_
      refine Ev.bind (graph_In.ev N l (by omega)) ?_
      refine Ev.bind (graph_Parts.ev N l hl) ?_
      rw [hn, ho, hi, hp, nbRows_length, outRows_length, outRows_length, repS_length]
      have hNe : ((N.toNat : Int) != N) = false := by rw [bne_eq_false_iff_eq]; omega
      simp only [show ((N.toNat : Int) = N) by omega, if_true]
      have h3 := sym_l0 N l hl hc lives37 N.toNat 0 (by omega)
      refine Ev.step (fun k => ?_) h3
      rw [mapmakerlaw37_GraphSymmetric.j1]
      simp [outLen]
    · have hb2 : (chk N l != 0) = true := by simpa using hc
      rw [hb2]
      exact hskip
end Go.Proofs.Ytnnknbghfbjcnaa.Print
