/- Plain facts on increasing lists of whole numbers: insertion, uniqueness, and what sorting and compacting a list gives. -/
import Derived.Lib.SlicesCompact
namespace Go.Proofs.Ytcfeehaoeaoegaa.Print
set_option linter.unusedVariables false

/-- x put into an increasing list, once. -/
def ins (x : Int) : List Int → List Int
  | [] => [x]
  | y :: r => if y < x then y :: ins x r else if y = x then y :: r else x :: y :: r
/-- The elements of a list, increasing, each once. -/
def setOf (l : List Int) : List Int := l.foldl (fun s x => ins x s) []
/-- Strictly increasing. -/
def Inc (l : List Int) : Prop := l.Pairwise (· < ·)
theorem mem_ins {x y : Int} : ∀ {l : List Int}, y ∈ ins x l ↔ y = x ∨ y ∈ l
  | [] => by simp [ins]
  | z :: r => by
    unfold ins
    split
    · rw [List.mem_cons, mem_ins, List.mem_cons]
      constructor
      · rintro (h | h | h)
        · exact .inr (.inl h)
        · exact .inl h
        · exact .inr (.inr h)
      · rintro (h | h | h)
        · exact .inr (.inl h)
        · exact .inl h
        · exact .inr (.inr h)
    · split
      · rename_i h
        rw [List.mem_cons]
        constructor
        · rintro (h | h)
          · exact .inr (.inl h)
          · exact .inr (.inr h)
        · rintro (h2 | h | h)
          · exact .inl (h2.trans h.symm)
          · exact .inl h
          · exact .inr h
      · simp
theorem inc_ins {x : Int} : ∀ {l : List Int}, Inc l → Inc (ins x l)
  | [], _ => by simp [ins, Inc]
  | z :: r, h => by
    have h1 := List.pairwise_cons.1 h
    unfold ins
    split
    · rename_i hz
      refine List.pairwise_cons.2 ⟨fun y hy => ?_, inc_ins h1.2⟩
      rcases mem_ins.1 hy with rfl | hy
      · exact hz
      · exact h1.1 y hy
    · split
      · exact h
      · rename_i h2 h3
        refine List.pairwise_cons.2 ⟨fun y hy => ?_, h⟩
        rcases List.mem_cons.1 hy with rfl | hy
        · omega
        · have := h1.1 y hy
          omega
theorem inc_unique : ∀ {a b : List Int}, Inc a → Inc b → (∀ x, x ∈ a ↔ x ∈ b) → a = b
  | [], [], _, _, _ => rfl
  | [], y :: s, _, _, h => by have := (h y).2 (by simp); simp at this
  | x :: r, [], _, _, h => by have := (h x).1 (by simp); simp at this
  | x :: r, y :: s, ha, hb, h => by
    have h1 := List.pairwise_cons.1 ha
    have h2 := List.pairwise_cons.1 hb
    have hxy : x = y := by
      have p := (h x).1 (by simp)
      have q := (h y).2 (by simp)
      rcases List.mem_cons.1 p with p | p
      · exact p
      · rcases List.mem_cons.1 q with q | q
        · exact q.symm
        · have := h1.1 y q
          have := h2.1 x p
          omega
    subst hxy
    congr 1
    refine inc_unique h1.2 h2.2 fun z => ?_
    have hz := h z
    constructor
    · intro hzr
      have := hz.1 (List.mem_cons_of_mem _ hzr)
      rcases List.mem_cons.1 this with e | e
      · have := h1.1 z hzr
        omega
      · exact e
    · intro hzs
      have := hz.2 (List.mem_cons_of_mem _ hzs)
      rcases List.mem_cons.1 this with e | e
      · have := h2.1 z hzs
        omega
      · exact e
theorem foldl_ins (l : List Int) : ∀ s, Inc s → Inc (l.foldl (fun s x => ins x s) s) ∧ ∀ y, y ∈ l.foldl (fun s x => ins x s) s ↔ y ∈ s ∨ y ∈ l := by
  induction l with
  | nil => intro s hs; exact ⟨hs, fun y => by simp⟩
  | cons x r ih =>
    intro s hs
    obtain ⟨h1, h2⟩ := ih (ins x s) (inc_ins hs)
    refine ⟨h1, fun y => ?_⟩
    rw [List.foldl_cons, h2, mem_ins, List.mem_cons]
    constructor
    · rintro ((h | h) | h)
      · exact .inr (.inl h)
      · exact .inl h
      · exact .inr (.inr h)
    · rintro (h | h | h)
      · exact .inl (.inr h)
      · exact .inl (.inl h)
      · exact .inr h
theorem inc_setOf (l : List Int) : Inc (setOf l) := (foldl_ins l [] List.Pairwise.nil).1
theorem mem_setOf {l : List Int} {y : Int} : y ∈ setOf l ↔ y ∈ l := by
  have h := (foldl_ins l [] List.Pairwise.nil).2 y
  rw [setOf, h]
  simp

theorem compact_upto (s : List Int) (hs : s.Pairwise (· ≤ ·)) : ∀ m, m ≤ s.length → Inc (Lib.compactUpTo s.toArray m) ∧ ∀ y, y ∈ Lib.compactUpTo s.toArray m ↔ y ∈ s.take m
  | 0, _ => by simp [Lib.compactUpTo, Inc]
  | m + 1, hm => by
    obtain ⟨h1, h2⟩ := compact_upto s hs m (by omega)
    have hlt : m < s.length := by omega
    have hget : s.toArray[m]! = s[m] := by simp [hlt]
    have htake : s.take (m + 1) = s.take m ++ [s[m]] := List.take_succ_eq_append_getElem hlt
    rw [Lib.compactUpTo_succ]
    by_cases hk : Lib.keeps s.toArray m = true
    · rw [if_pos hk, hget]
      constructor
      · refine List.pairwise_append.2 ⟨h1, by simp, ?_⟩
        intro a ha b hb
        rw [List.mem_singleton] at hb
        subst hb
        have ha' := (h2 a).1 ha
        obtain ⟨i, hi, rfl⟩ := List.mem_iff_getElem.1 ha'
        have him : i < m := by simp at hi; omega
        rw [List.getElem_take]
        unfold Lib.keeps at hk
        have hk' := of_decide_eq_true hk
        rcases hk' with h0 | hne
        · omega
        · have hg1 : s.toArray[m - 1]! = s[m - 1] := by simp [show m - 1 < s.length by omega]
          rw [hget, hg1] at hne
          have hp := List.pairwise_iff_getElem.1 hs
          have h3 := hp (m - 1) m (by omega) hlt (by omega)
          have h4 : s[i] ≤ s[m - 1] := by
            rcases Nat.lt_or_ge i (m - 1) with h | h
            · exact hp i (m - 1) (by omega) (by omega) h
            · have : i = m - 1 := by omega
              subst this
              exact Int.le_refl _
          omega
      · intro y
        rw [List.mem_append, htake, List.mem_append, h2]
    · rw [if_neg hk, List.append_nil]
      refine ⟨h1, fun y => ?_⟩
      rw [htake, List.mem_append, h2]
      constructor
      · exact .inl
      · rintro (h | h)
        · exact h
        · rw [List.mem_singleton] at h
          subst h
          unfold Lib.keeps at hk
          have hk' : ¬ (m = 0 ∨ s.toArray[m]! ≠ s.toArray[m - 1]!) := fun h => hk (decide_eq_true h)
          have hm0 : m ≠ 0 := fun h => hk' (.inl h)
          have heq : s.toArray[m]! = s.toArray[m - 1]! := Classical.byContradiction fun h => hk' (.inr h)
          have hg1 : s.toArray[m - 1]! = s[m - 1] := by simp [show m - 1 < s.length by omega]
          rw [hget, hg1] at heq
          rw [heq]
          exact List.mem_iff_getElem.2 ⟨m - 1, by simp; omega, by simp⟩
theorem compact_sort (l : List Int) : Lib.compact (l.mergeSort fun x y => decide (x ≤ y)) = setOf l := by
  have hs : (l.mergeSort fun x y => decide (x ≤ y)).Pairwise (· ≤ ·) := by
    have := List.pairwise_mergeSort (le := fun (x y : Int) => decide (x ≤ y)) (fun a b c h1 h2 => by simp at *; omega) (fun a b => by simp; omega) l
    exact this.imp (fun h => by simpa using h)
  obtain ⟨h1, h2⟩ := compact_upto _ hs _ (Nat.le_refl _)
  refine inc_unique h1 (inc_setOf l) fun x => ?_
  unfold Lib.compact
  rw [h2, List.take_length, mem_setOf]
  exact (List.mergeSort_perm l _).mem_iff
end Go.Proofs.Ytcfeehaoeaoegaa.Print
