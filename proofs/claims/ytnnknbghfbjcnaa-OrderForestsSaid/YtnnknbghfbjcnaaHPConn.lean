/- Plain facts on symmetric relations of numbers below n: what is connected, the least connected number, and how many steps suffice. -/
import Derived.Lib.SlicesCompact
namespace Go.Proofs.Ytnnknbghfbjcnaa.Print
set_option linter.unusedVariables false

inductive Conn (A : Nat → Nat → Prop) : Nat → Nat → Prop
  | refl (v : Nat) : Conn A v v
  | tail {u v w : Nat} : Conn A u v → A v w → Conn A u w
theorem Conn.trans {A : Nat → Nat → Prop} {u v w : Nat} (h : Conn A u v) (k : Conn A v w) : Conn A u w := by
  induction k with
  | refl => exact h
  | tail _ ha ih => exact ih.tail ha
theorem Conn.one {A : Nat → Nat → Prop} {u v : Nat} (h : A u v) : Conn A u v := (Conn.refl u).tail h
theorem Conn.symm {A : Nat → Nat → Prop} (hs : ∀ u v, A u v → A v u) {u v : Nat} (h : Conn A u v) : Conn A v u := by
  induction h with
  | refl => exact Conn.refl _
  | tail _ ha ih => exact (Conn.one (hs _ _ ha)).trans ih
theorem Conn.mono {A B : Nat → Nat → Prop} (hab : ∀ u v, A u v → B u v) {u v : Nat} (h : Conn A u v) : Conn B u v := by
  induction h with
  | refl => exact Conn.refl _
  | tail _ ha ih => exact ih.tail (hab _ _ ha)
theorem least_of {P : Nat → Prop} {m : Nat} (h : P m) : ∃ r, P r ∧ ∀ u, P u → r ≤ u := by
  induction m using Nat.strongRecOn with
  | _ m ih =>
    by_cases hc : ∃ u, u < m ∧ P u
    · obtain ⟨u, hu, hp⟩ := hc
      exact ih u hu hp
    · exact ⟨m, h, fun u hu => by
        rcases Nat.lt_or_ge u m with hlt | hge
        · exact absurd ⟨u, hlt, hu⟩ hc
        · exact hge⟩
theorem rep_ex (A : Nat → Nat → Prop) (v : Nat) : ∃ r, Conn A r v ∧ ∀ u, Conn A u v → r ≤ u := least_of (Conn.refl v)
/-- The least number that is connected with v. -/
noncomputable def rep (A : Nat → Nat → Prop) (v : Nat) : Nat := Classical.choose (rep_ex A v)
theorem rep_conn (A : Nat → Nat → Prop) (v : Nat) : Conn A (rep A v) v := (Classical.choose_spec (rep_ex A v)).1
theorem rep_le {A : Nat → Nat → Prop} {u v : Nat} (h : Conn A u v) : rep A v ≤ u := (Classical.choose_spec (rep_ex A v)).2 u h
theorem rep_le_self (A : Nat → Nat → Prop) (v : Nat) : rep A v ≤ v := rep_le (Conn.refl v)
theorem rep_eq {A : Nat → Nat → Prop} (hs : ∀ u v, A u v → A v u) {u v : Nat} (h : Conn A u v) : rep A u = rep A v :=
  Nat.le_antisymm (rep_le ((rep_conn A v).trans (h.symm hs))) (rep_le ((rep_conn A u).trans h))
theorem rep_rep {A : Nat → Nat → Prop} (hs : ∀ u v, A u v → A v u) (v : Nat) : rep A (rep A v) = rep A v := rep_eq hs (rep_conn A v)
theorem rep_congr {A B : Nat → Nat → Prop} (h : ∀ u v, A u v ↔ B u v) (v : Nat) : rep A v = rep B v :=
  Nat.le_antisymm (rep_le ((rep_conn B v).mono fun u v hb => (h u v).2 hb)) (rep_le ((rep_conn A v).mono fun u v ha => (h u v).1 ha))

/-! ### Steps -/
def Reach (A : Nat → Nat → Prop) (u : Nat) : Nat → Nat → Prop
  | 0, w => w = u
  | t + 1, w => Reach A u t w ∨ ∃ x, Reach A u t x ∧ A x w
theorem Reach.more {A : Nat → Nat → Prop} {u : Nat} {t w : Nat} (h : Reach A u t w) : ∀ s, Reach A u (t + s) w
  | 0 => h
  | s + 1 => .inl (Reach.more h s)
theorem filter_lt {α : Type} (p q : α → Bool) (hpq : ∀ x, p x = true → q x = true) : ∀ (l : List α), (l.filter p).length ≤ (l.filter q).length ∧ ((∃ x ∈ l, q x = true ∧ p x = false) → (l.filter p).length < (l.filter q).length)
  | [] => by simp
  | y :: r => by
    obtain ⟨h1, h2⟩ := filter_lt p q hpq r
    cases hp : p y with
    | true =>
      have hq := hpq y hp
      rw [List.filter_cons_of_pos hp, List.filter_cons_of_pos hq]
      refine ⟨by simp; exact h1, fun ⟨x, hx, hxq, hxp⟩ => ?_⟩
      rcases List.mem_cons.1 hx with rfl | hx
      · rw [hp] at hxp; cases hxp
      · have := h2 ⟨x, hx, hxq, hxp⟩
        simp; exact this
    | false =>
      rw [List.filter_cons_of_neg (by simp [hp])]
      cases hq : q y with
      | true =>
        rw [List.filter_cons_of_pos hq]
        simp only [List.length_cons]
        exact ⟨by omega, fun _ => by omega⟩
      | false =>
        rw [List.filter_cons_of_neg (by simp [hq])]
        refine ⟨h1, fun ⟨x, hx, hxq, hxp⟩ => ?_⟩
        rcases List.mem_cons.1 hx with rfl | hx
        · rw [hq] at hxq; cases hxq
        · exact h2 ⟨x, hx, hxq, hxp⟩
open Classical in
/-- Below n all that is connected is reached in fewer than n steps. -/
theorem reach_all {A : Nat → Nat → Prop} {n u : Nat} (hA : ∀ x w, A x w → w < n) (hu : u < n) {w : Nat} (h : Conn A u w) : Reach A u (n - 1) w := by
  have closed : ∀ t, (∀ w, Reach A u (t + 1) w → Reach A u t w) → ∀ w, Conn A u w → Reach A u t w := by
    intro t ht w hw
    induction hw with
    | refl =>
      have : Reach A u 0 u := rfl
      have := this.more t
      rwa [Nat.zero_add] at this
    | tail _ ha ih => exact ht _ (.inr ⟨_, ih, ha⟩)
  have bound : ∀ t w, Reach A u t w → w < n := by
    intro t
    induction t with
    | zero => intro w hw; have : w = u := hw; omega
    | succ t ih =>
      intro w hw
      rcases hw with hw | ⟨x, _, ha⟩
      · exact ih w hw
      · exact hA _ _ ha
  have grow : ∀ t, (∃ s, s < t ∧ ∀ w, Reach A u (s + 1) w → Reach A u s w) ∨ t + 1 ≤ ((List.range n).filter fun w => decide (Reach A u t w)).length := by
    intro t
    induction t with
    | zero =>
      right
      have h1 := (filter_lt (fun w => false) (fun w => decide (Reach A u 0 w)) (fun x hx => by cases hx) (List.range n)).2 ⟨u, List.mem_range.2 hu, decide_eq_true rfl, rfl⟩
      omega
    | succ t ih =>
      rcases ih with ⟨s, hs, hc⟩ | ih
      · exact .inl ⟨s, by omega, hc⟩
      · by_cases hc : ∀ w, Reach A u (t + 1) w → Reach A u t w
        · exact .inl ⟨t, by omega, hc⟩
        · right
          obtain ⟨w, hw⟩ := Classical.not_forall.1 hc
          obtain ⟨hw1, hw2⟩ := Classical.not_imp.1 hw
          have h1 := (filter_lt (fun w => decide (Reach A u t w)) (fun w => decide (Reach A u (t + 1) w)) (fun x hx => decide_eq_true (.inl (of_decide_eq_true hx))) (List.range n)).2 ⟨w, List.mem_range.2 (bound _ _ hw1), decide_eq_true hw1, decide_eq_false hw2⟩
          omega
  rcases grow n with ⟨s, hs, hc⟩ | hbig
  · have := (closed s hc w h).more (n - 1 - s)
    rwa [show s + (n - 1 - s) = n - 1 by omega] at this
  · have := List.length_filter_le (fun w => decide (Reach A u n w)) (List.range n)
    rw [List.length_range] at this
    omega
end Go.Proofs.Ytnnknbghfbjcnaa.Print
