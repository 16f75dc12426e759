/- What a call leaves alone but for the blocks of T. -/
import Derived.Test.YtcfeehaoeaoegaaPrint0
import Derived.Test.YtcfeehaoeaoegaaHPSet
namespace Go.Proofs.Ytcfeehaoeaoegaa.Print
open Go.RowKit Go.Proofs.YtcfeehaoeaoegaaW.PrintWords Go.Proofs.YtcfeehaoeaoegaaW.PrintLast Go.Proofs.YtcfeehaoeaoegaaW.PrintMore
set_option linter.unusedVariables false
set_option linter.unusedSimpArgs false

theorem setCell_size (w : World) (a : Addr) (v : Value) : (w.setCell a v).heap.size = w.heap.size := by simp [World.setCell]
/-! ### What a call leaves alone, but for the blocks of T -/
structure Bel (T : Nat → Prop) (w w' : World) : Prop where
  os : w'.os = w.os
  tape : w'.tape = w.tape
  output : w'.output = w.output
  size : w.heap.size ≤ w'.heap.size
  block : ∀ k, k < w.heap.size → ¬ T k → w'.heap[k]? = w.heap[k]?
section
variable {T : Nat → Prop} {W w w1 : World}
theorem Bel.refl (T : Nat → Prop) (w : World) : Bel T w w := ⟨rfl, rfl, rfl, Nat.le_refl _, fun _ _ _ => rfl⟩
theorem Bel.trans (h : Bel T W w) {T' : Nat → Prop} (h' : Bel T' w w1) (hT : ∀ k, k < W.heap.size → T' k → T k) : Bel T W w1 :=
  ⟨h'.os.trans h.os, h'.tape.trans h.tape, h'.output.trans h.output, Nat.le_trans h.size h'.size, fun k hk hn => (h'.block k (Nat.lt_of_lt_of_le hk h.size) (fun x => hn (hT k hk x))).trans (h.block k hk hn)⟩
theorem Bel.below (h : Bel T W w) (h' : Below w.heap.size w w1) : Bel T W w1 :=
  ⟨h'.os.trans h.os, h'.tape.trans h.tape, h'.output.trans h.output, Nat.le_trans h.size h'.size, fun k hk hn => (h'.block k (Nat.lt_of_lt_of_le hk h.size)).trans (h.block k hk hn)⟩
theorem Bel.alloc (h : Bel T W w) (o : Obj) : Bel T W (w.alloc o) := h.below ((Below.refl _ _).alloc (Nat.le_refl _) o)
theorem Bel.drew (h : Bel T W w) : Bel T W w.drew := ⟨h.os, h.tape, h.output, h.size, h.block⟩
theorem Bel.grown (h : Bel T W w) {row : Option Nat} (h' : w.grownBy w1 row) (hr : ∀ k, row = some k → T k ∨ W.heap.size ≤ k) : Bel T W w1 :=
  ⟨h'.os.trans h.os, h'.tape.trans h.tape, h'.output.trans h.output, Nat.le_trans h.size h'.size, fun k hk hn => (h'.block k (Nat.lt_of_lt_of_le hk h.size) (fun e => by
    rcases hr k e.symm with h1 | h1
    · exact hn h1
    · omega)).trans (h.block k hk hn)⟩
theorem Bel.setCell (h : Bel T W w) (a : Addr) (v : Value) (ha : T a.block ∨ W.heap.size ≤ a.block) : Bel T W (w.setCell a v) :=
  ⟨h.os, h.tape, h.output, by rw [setCell_size]; exact h.size, fun k hk hn => (Below.heap_setCell w a v k (fun e => by
    rcases ha with h1 | h1
    · exact hn (e ▸ h1)
    · omega)).trans (h.block k hk hn)⟩
theorem Bel.out (h : Bel T W w) {base : Nat} (hb : base ≤ W.heap.size) (hT : ∀ k, T k → base ≤ k) : Below base W w :=
  ⟨h.os, h.tape, h.output, h.size, fun k hk => h.block k (Nat.lt_of_lt_of_le hk hb) (fun x => by have := hT k x; omega)⟩
end
theorem nodup_le : ∀ (n : Nat) (l : List Nat), l.Nodup → (∀ x ∈ l, x < n) → l.length ≤ n
  | 0, l, _, h => by
    cases l with
    | nil => simp
    | cons a r => exact absurd (h a (by simp)) (by omega)
  | n + 1, l, hl, h => by
    have h1 := nodup_le n (l.erase n) (hl.erase n) (fun x hx => by
      have hx' := (List.Nodup.mem_erase_iff hl).1 hx
      have := h x hx'.2
      have := hx'.1
      omega)
    rw [List.length_erase] at h1
    split at h1 <;> omega
end Go.Proofs.Ytcfeehaoeaoegaa.Print
