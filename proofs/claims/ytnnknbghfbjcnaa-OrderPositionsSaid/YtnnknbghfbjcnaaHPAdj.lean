/- Who is whose neighbour in the lists of graph.Neighbours. -/
import Derived.Test.YtnnknbghfbjcnaaHP37c
namespace Go.Proofs.Ytnnknbghfbjcnaa.Print
open Go.RowKit Go.Proofs.YtnnknbghfbjcnaaW.PrintWords Go.Proofs.YtnnknbghfbjcnaaW.PrintLast Go.Proofs.YtnnknbghfbjcnaaW.PrintMore
set_option linter.unusedVariables false
set_option linter.unusedSimpArgs false

/-- Two vertices have an arc between them. -/
def Adj (l : List S40) (u v : Nat) : Prop := u ≠ v ∧ ∃ a ∈ l, (a.f0 = (u : Int) ∧ a.f1 = (v : Int)) ∨ (a.f1 = (u : Int) ∧ a.f0 = (v : Int))
theorem Adj.symm {l : List S40} (u v : Nat) (h : Adj l u v) : Adj l v u := by
  obtain ⟨hne, a, ha, h⟩ := h
  exact ⟨fun e => hne e.symm, a, ha, h.elim (fun h => .inr ⟨h.2, h.1⟩) (fun h => .inl ⟨h.2, h.1⟩)⟩
theorem mem_rawNb {l : List S40} {v x : Int} : ∀ j, j ≤ l.length → (x ∈ rawNb l v j ↔ x ≠ v ∧ ∃ (i : Nat) (hi : i < l.length), i < j ∧ ((l[i].f0 = v ∧ l[i].f1 = x) ∨ (l[i].f1 = v ∧ l[i].f0 = x)))
  | 0, _ => by
    constructor
    · intro h; cases h
    · rintro ⟨_, i, _, hi, _⟩; omega
  | j + 1, h => by
    have hj : j < l.length := by omega
    have ih := mem_rawNb (l := l) (v := v) (x := x) j (by omega)
    rw [rawNb, getD_arc l j hj, List.mem_append, List.mem_append, ih]
    have e1 : x ∈ (if l[j].f0 = v ∧ ¬ l[j].f1 = v then [l[j].f1] else []) ↔ (l[j].f0 = v ∧ l[j].f1 = x ∧ x ≠ v) := by
      split
      · rename_i hc
        rw [List.mem_singleton]
        exact ⟨fun e => ⟨hc.1, e.symm, by rw [e]; exact hc.2⟩, fun e => e.2.1.symm⟩
      · rename_i hc
        constructor
        · intro h; cases h
        · rintro ⟨h1, h2, h3⟩
          exact absurd ⟨h1, by rw [h2]; exact h3⟩ hc
    have e2 : x ∈ (if l[j].f1 = v ∧ ¬ l[j].f0 = v then [l[j].f0] else []) ↔ (l[j].f1 = v ∧ l[j].f0 = x ∧ x ≠ v) := by
      split
      · rename_i hc
        rw [List.mem_singleton]
        exact ⟨fun e => ⟨hc.1, e.symm, by rw [e]; exact hc.2⟩, fun e => e.2.1.symm⟩
      · rename_i hc
        constructor
        · intro h; cases h
        · rintro ⟨h1, h2, h3⟩
          exact absurd ⟨h1, by rw [h2]; exact h3⟩ hc
    rw [e1, e2]
    constructor
    · rintro (⟨hne, i, hi, hij, hc⟩ | ⟨h1, h2, h3⟩ | ⟨h1, h2, h3⟩)
      · exact ⟨hne, i, hi, by omega, hc⟩
      · exact ⟨h3, j, hj, by omega, .inl ⟨h1, h2⟩⟩
      · exact ⟨h3, j, hj, by omega, .inr ⟨h1, h2⟩⟩
    · rintro ⟨hne, i, hi, hij, hc⟩
      by_cases e : i = j
      · subst e
        rcases hc with hc | hc
        · exact .inr (.inl ⟨hc.1, hc.2, hne⟩)
        · exact .inr (.inr ⟨hc.1, hc.2, hne⟩)
      · exact .inl ⟨hne, i, hi, by omega, hc⟩
theorem mem_nbS {l : List S40} {u x : Nat} : (x : Int) ∈ nbS l (u : Int) ↔ Adj l u x := by
  unfold nbS
  rw [mem_setOf, mem_rawNb _ (Nat.le_refl _)]
  constructor
  · rintro ⟨hne, i, hi, _, hc⟩
    exact ⟨fun e => hne (by rw [e]), l[i], List.getElem_mem hi, hc⟩
  · rintro ⟨hne, a, ha, hc⟩
    obtain ⟨i, hi, rfl⟩ := List.mem_iff_getElem.1 ha
    exact ⟨fun e => hne (by omega), i, hi, hi, hc⟩
theorem nbS_nat {N : Int} {l : List S40} (hc : chk N l = 0) {v x : Int} (h : x ∈ nbS l v) : ∃ y : Nat, x = (y : Int) ∧ y < N.toNat := by
  unfold nbS at h
  rw [mem_setOf, mem_rawNb _ (Nat.le_refl _)] at h
  obtain ⟨_, i, hi, _, hcc⟩ := h
  obtain ⟨h0, h1, ha⟩ := chk_ok hc
  obtain ⟨f0, f1, f2, f3⟩ := ha i hi
  rcases hcc with ⟨_, e⟩ | ⟨_, e⟩
  · exact ⟨x.toNat, by omega, by omega⟩
  · exact ⟨x.toNat, by omega, by omega⟩
end Go.Proofs.Ytnnknbghfbjcnaa.Print
