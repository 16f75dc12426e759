/- Neighbours of a graph: the reference's lists are the program's. -/
import Derived.Test.YtcfeehaoeaoegaaHP37c
import Derived.Test.YtcfeehaoeaoegaaF15
namespace Go.Proofs.Ytcfeehaoeaoegaa.Print
open Go.RowKit Go.Proofs.YtcfeehaoeaoegaaW.PrintWords Go.Proofs.YtcfeehaoeaoegaaW.PrintLast Go.Proofs.YtcfeehaoeaoegaaW.PrintMore
set_option linter.unusedVariables false
set_option linter.unusedSimpArgs false

theorem has_l0 (s : List Int) (x : Int) (hs : s.length < 1000000000000) : ∀ d j : Nat, j + d = s.length → Ev (fun k => mapmakerref05_Has.l0 k s x (j : Int)) (decide (x ∈ s.drop j))
  | 0, j, h => by
    have hj : j = s.length := by omega
    subst hj
    rw [List.drop_length]
    refine Ev.step1 fun k => ?_
    simp only [mapmakerref05_Has.l0]
    rw [if_neg (by omega)]
    rfl
  | d + 1, j, h => by
    have hj : j < s.length := by omega
    have ih := has_l0 s x hs d (j + 1) (by omega)
    rw [List.drop_eq_getElem_cons hj]
    by_cases e : s[j] = x
    · have : decide (x ∈ s[j] :: s.drop (j + 1)) = true := decide_eq_true (by rw [List.mem_cons]; exact .inl e.symm)
      rw [this]
      refine Ev.step1 fun k => ?_
      simp only [mapmakerref05_Has.l0]
      rw [if_pos (by omega), if_pos (by omega), rd_int s j hj, if_pos e]
    · have e' : ¬ x = s[j] := fun h => e h.symm
      have : decide (x ∈ s[j] :: s.drop (j + 1)) = decide (x ∈ s.drop (j + 1)) := by
        rw [decide_eq_decide, List.mem_cons]
        exact ⟨fun h => h.resolve_left e', .inr⟩
      rw [this]
      refine Ev.step (fun k => ?_) ih
      simp only [mapmakerref05_Has.l0]
      rw [if_pos (by omega), if_pos (by omega), rd_int s j hj, if_neg e, wrap_succ (by omega)]
theorem mapmakerref05_Has.ev (s : List Int) (x : Int) (hs : s.length < 1000000000000) : Ev (fun k => mapmakerref05_Has.f k s x) (decide (x ∈ s)) := has_l0 s x hs s.length 0 (by omega)
theorem with_l1 (s : List Int) (hs : s.length < 1000000000000) : ∀ (d j : Nat) (o : List Int), j + d = s.length → o.length ≤ j + 1 → Ev (fun k => mapmakerref05_With.l1 k s o (j : Int)) (o ++ s.drop j)
  | 0, j, o, h, ho => by
    have hj : j = s.length := by omega
    subst hj
    rw [List.drop_length, List.append_nil]
    refine Ev.step1 fun k => ?_
    simp only [mapmakerref05_With.l1]
    rw [if_neg (by omega)]
  | d + 1, j, o, h, ho => by
    have hj : j < s.length := by omega
    have ih := with_l1 s hs d (j + 1) (o ++ [s[j]]) (by omega) (by simp; omega)
    rw [List.append_assoc, List.singleton_append, ← List.drop_eq_getElem_cons hj] at ih
    refine Ev.step (fun k => ?_) ih
    simp only [mapmakerref05_With.l1]
    rw [if_pos (by omega), if_pos (by omega), if_pos (by omega), rd_int s j hj, wrap_succ (by omega)]
theorem with_l0 (s : List Int) (x : Int) (hs : s.length < 1000000000000) (hx : x ∉ s) : ∀ (d j : Nat), j + d = s.length → Ev (fun k => mapmakerref05_With.l0 k s x (s.take j) (j : Int)) (s.take j ++ ins x (s.drop j))
  | 0, j, h => by
    have hj : j = s.length := by omega
    subst hj
    rw [List.drop_length, List.take_length]
    have h1 := with_l1 s hs 0 s.length (s ++ [x]) (by omega) (by simp)
    rw [List.drop_length, List.append_nil] at h1
    have h2 : Ev (fun k => mapmakerref05_With.j1 k s x s (s.length : Int)) (s ++ [x]) := Ev.step (fun k => by simp only [mapmakerref05_With.j1]; rw [if_pos (by omega)]) h1
    refine Ev.step (fun k => ?_) h2
    simp only [mapmakerref05_With.l0]
    rw [if_neg (by omega)]
  | d + 1, j, h => by
    have hj : j < s.length := by omega
    rw [List.drop_eq_getElem_cons hj]
    by_cases e : s[j] < x
    · have ih := with_l0 s x hs hx d (j + 1) (by omega)
      rw [List.take_succ_eq_append_getElem hj, List.append_assoc, List.singleton_append] at ih
      unfold ins
      rw [if_pos e]
      refine Ev.step (fun k => ?_) ih
      simp only [mapmakerref05_With.l0]
      rw [if_pos (by omega), if_pos (by omega), rd_int s j hj, if_pos e, if_pos (by simp; omega), wrap_succ (by omega)]
    · have hne : ¬ s[j] = x := fun h => hx (h ▸ List.getElem_mem hj)
      unfold ins
      rw [if_neg e, if_neg hne]
      have h1 := with_l1 s hs (d + 1) j (s.take j ++ [x]) (by omega) (by simp; omega)
      rw [List.append_assoc, List.singleton_append, List.drop_eq_getElem_cons hj] at h1
      have h2 : Ev (fun k => mapmakerref05_With.j1 k s x (s.take j) (j : Int)) (s.take j ++ x :: s[j] :: s.drop (j + 1)) := Ev.step (fun k => by simp only [mapmakerref05_With.j1]; rw [if_pos (by simp; omega)]) h1
      refine Ev.step (fun k => ?_) h2
      simp only [mapmakerref05_With.l0]
      rw [if_pos (by omega), if_pos (by omega), rd_int s j hj, if_neg e]
theorem mapmakerref05_With.ev (s : List Int) (x : Int) (hs : s.length < 1000000000000) (hi : Inc s) : Ev (fun k => mapmakerref05_With.f k s x) (ins x s) := by
  unfold mapmakerref05_With.f
  refine Ev.bind (mapmakerref05_Has.ev s x hs) ?_
  by_cases h : x ∈ s
  · simp only [decide_eq_true h, if_true]
    rw [ins_of_mem hi h]
    exact Ev.now _
  · simp only [decide_eq_false h, Bool.false_eq_true, if_false]
    have := with_l0 s x hs h s.length 0 (by omega)
    simpa using this

theorem rnb_l1 (N : Int) (l : List S38) (hl : l.length < 100000000000) (x3 : List (List Int)) (v : Nat) (r : List (List Int)) (hx : x3.length < 1000000000000) (hv : v < 10000000) (hcont : Ev (fun k => mapmakerref37_Neighbours.l0 k (x3 ++ [nbS l (v : Int)]) ((v + 1 : Nat) : Int) N l) r) :
    ∀ d j : Nat, j + d = l.length → Ev (fun k => mapmakerref37_Neighbours.l1 k x3 (v : Int) (setOf (rawNb l (v : Int) j)) (j : Int) N l) r
  | 0, j, h => by
    have hj : j = l.length := by omega
    subst hj
    refine Ev.step (fun k => ?_) hcont
    simp only [mapmakerref37_Neighbours.l1]
    rw [if_neg (by omega), if_pos (by omega), wrap_succ (by omega)]
    rfl
  | d + 1, j, h => by
    have hj : j < l.length := by omega
    have ih := rnb_l1 N l hl x3 v r hx hv hcont d (j + 1) (by omega)
    have hs1 := length_setOf (rawNb l (v : Int) j)
    have hs2 := rawNb_length l (v : Int) j
    have hraw : rawNb l (v : Int) (j + 1) = rawNb l (v : Int) j ++ ((if l[j].f0 = (v : Int) ∧ ¬ l[j].f1 = (v : Int) then [l[j].f1] else []) ++ (if l[j].f1 = (v : Int) ∧ ¬ l[j].f0 = (v : Int) then [l[j].f0] else [])) := by
      rw [← getD_arc l j hj]; rfl
    rw [hraw, setOf_append] at ih
    have hw : ∀ x : Int, Ev (fun k => mapmakerref05_With.f k (setOf (rawNb l (v : Int) j)) x) (ins x (setOf (rawNb l (v : Int) j))) := fun x => mapmakerref05_With.ev _ _ (by omega) (inc_setOf _)
    by_cases h1 : l[j].f0 = (v : Int)
    · by_cases h2 : l[j].f1 = (v : Int)
      · rw [if_neg (fun h => h.2 h2), if_neg (fun h => h.2 h1)] at ih
        have h3 : Ev (fun k => mapmakerref37_Neighbours.j3 k x3 (v : Int) (setOf (rawNb l (v : Int) j)) (j : Int) false N l l[j].f0 l[j].f1) r := by
          refine Ev.step (fun k => ?_) ih
          simp only [mapmakerref37_Neighbours.j3]
          rw [if_neg (by simp), if_pos h2, if_pos h1, wrap_succ (by omega)]
          rfl
        refine Ev.step (fun k => ?_) h3
        simp only [mapmakerref37_Neighbours.l1]
        rw [if_pos (by omega), if_pos (by omega), rd_arc l j hj, if_pos h1]
        rw [show (l[j].f1 != (v : Int)) = false from bne_eq_false_iff_eq.2 h2]
      · rw [if_pos ⟨h1, h2⟩, if_neg (fun h => h2 h.1)] at ih
        have h3 : Ev (fun k => mapmakerref37_Neighbours.j3 k x3 (v : Int) (setOf (rawNb l (v : Int) j)) (j : Int) true N l l[j].f0 l[j].f1) r := by
          refine Ev.step (fun k => ?_) (Ev.bind (hw l[j].f1) (f := fun k t => mapmakerref37_Neighbours.l1 k x3 (v : Int) t (wrap64 ((j : Int) + 1)) N l) (by rw [wrap_succ (show j < 1000000000000000 by omega)]; exact ih))
          simp only [mapmakerref37_Neighbours.j3]
          rw [if_pos trivial]
          simp only [if_neg h2]
        refine Ev.step (fun k => ?_) h3
        simp only [mapmakerref37_Neighbours.l1]
        rw [if_pos (by omega), if_pos (by omega), rd_arc l j hj, if_pos h1]
        rw [show (l[j].f1 != (v : Int)) = true from bne_iff_ne.2 h2]
    · by_cases h2 : l[j].f1 = (v : Int)
      · rw [if_neg (fun h => h1 h.1), if_pos ⟨h2, h1⟩] at ih
        have h3 : Ev (fun k => mapmakerref37_Neighbours.j3 k x3 (v : Int) (setOf (rawNb l (v : Int) j)) (j : Int) false N l l[j].f0 l[j].f1) r := by
          refine Ev.step (fun k => ?_) (Ev.bind (hw l[j].f0) (f := fun k t => mapmakerref37_Neighbours.l1 k x3 (v : Int) t (wrap64 ((j : Int) + 1)) N l) (by rw [wrap_succ (show j < 1000000000000000 by omega)]; exact ih))
          simp only [mapmakerref37_Neighbours.j3]
          rw [if_neg (by simp), if_pos h2, if_neg h1]
        refine Ev.step (fun k => ?_) h3
        simp only [mapmakerref37_Neighbours.l1]
        rw [if_pos (by omega), if_pos (by omega), rd_arc l j hj, if_neg h1]
      · rw [if_neg (fun h => h1 h.1), if_neg (fun h => h2 h.1)] at ih
        have h3 : Ev (fun k => mapmakerref37_Neighbours.j3 k x3 (v : Int) (setOf (rawNb l (v : Int) j)) (j : Int) false N l l[j].f0 l[j].f1) r := by
          refine Ev.step (fun k => ?_) ih
          simp only [mapmakerref37_Neighbours.j3]
          rw [if_neg (by simp), if_neg h2, wrap_succ (by omega)]
          rfl
        refine Ev.step (fun k => ?_) h3
        simp only [mapmakerref37_Neighbours.l1]
        rw [if_pos (by omega), if_pos (by omega), rd_arc l j hj, if_neg h1]
theorem nbRows_snoc (n : Nat) (l : List S38) : nbRows n l ++ [nbS l (n : Int)] = nbRows (n + 1) l := by simp [nbRows, List.range_succ]
theorem rnb_l0 (N : Int) (l : List S38) (hl : l.length < 100000000000) (hc : chk N l = 0) : ∀ d v : Nat, v + d = N.toNat → Ev (fun k => mapmakerref37_Neighbours.l0 k (nbRows v l) (v : Int) N l) (nbRows N.toNat l)
  | 0, v, h => by
    obtain ⟨h0, h1, _⟩ := chk_ok hc
    have hv : v = N.toNat := by omega
    subst hv
    have h2 : Ev (fun k => mapmakerref37_Neighbours.j1 k (nbRows N.toNat l) ((N.toNat : Nat) : Int) false N l) (nbRows N.toNat l) := Ev.step1 fun k => by simp only [mapmakerref37_Neighbours.j1]; rfl
    refine Ev.step (fun k => ?_) h2
    simp only [mapmakerref37_Neighbours.l0]
    rw [if_neg (by omega)]
  | d + 1, v, h => by
    obtain ⟨h0, h1, _⟩ := chk_ok hc
    have ih := rnb_l0 N l hl hc d (v + 1) (by omega)
    rw [← nbRows_snoc] at ih
    have h3 := rnb_l1 N l hl (nbRows v l) v _ (by rw [nbRows_length]; omega) (by omega) ih l.length 0 (by omega)
    have h2 : Ev (fun k => mapmakerref37_Neighbours.j1 k (nbRows v l) (v : Int) true N l) (nbRows N.toNat l) := Ev.step (fun k => by simp only [mapmakerref37_Neighbours.j1]; rw [if_pos trivial]; rfl) h3
    have hck := mapmakerref37_Check.ev N l (by omega)
    rw [hc] at hck
    refine Ev.step (fun k => ?_) (Ev.bind hck (f := fun k t => mapmakerref37_Neighbours.j1 k (nbRows v l) (v : Int) (t == 0) N l) (by rw [show ((0 : Int) == 0) = true from rfl]; exact h2))
    simp only [mapmakerref37_Neighbours.l0]
    rw [if_pos (by omega)]
theorem mapmakerref37_Neighbours.ev (N : Int) (l : List S38) (hl : l.length < 100000000000) : Ev (fun k => mapmakerref37_Neighbours.f k N l) (neighS N l) := by
  unfold mapmakerref37_Neighbours.f neighS
  by_cases h : chk N l = 0
  · rw [if_pos h]
    exact rnb_l0 N l hl h N.toNat 0 (by omega)
  · rw [if_neg h]
    have hj : ∀ r : List (List Int), Ev (fun k => mapmakerref37_Neighbours.j1 k r 0 false N l) r := fun r => Ev.step1 fun k => by simp only [mapmakerref37_Neighbours.j1]; rfl
    by_cases h0 : 0 < N
    · have hck := mapmakerref37_Check.ev N l (by omega)
      have hb : (chk N l == 0) = false := by simpa using h
      refine Ev.step (fun k => ?_) (Ev.bind hck (f := fun k t => mapmakerref37_Neighbours.j1 k [] 0 (t == 0) N l) (by rw [hb]; exact hj []))
      simp only [mapmakerref37_Neighbours.l0]
      rw [if_pos h0]
    · refine Ev.step (fun k => ?_) (hj [])
      simp only [mapmakerref37_Neighbours.l0]
      rw [if_neg h0]
theorem neighS_small (N : Int) (l : List S38) (hl : l.length < 100000000000) : (neighS N l).length < 1000000000000 ∧ ∀ r ∈ neighS N l, r.length < 1000000000000 := by
  unfold neighS
  split
  · rename_i h
    obtain ⟨h0, h1, _⟩ := chk_ok h
    refine ⟨by rw [nbRows_length]; omega, fun r hr => ?_⟩
    obtain ⟨v, hv, rfl⟩ := List.mem_map.1 hr
    have h2 := rawNb_length l (v : Int) l.length
    have h3 := length_setOf (rawNb l (v : Int) l.length)
    show (setOf (rawNb l (v : Int) l.length)).length < _
    omega
  · exact ⟨by simp, fun r hr => by simp at hr⟩
end Go.Proofs.Ytcfeehaoeaoegaa.Print
