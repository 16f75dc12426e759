/- Several texts of this claim in one: HPSet, HXBel, HKHier, HSets. -/
import Derived.Lib.SlicesCompact
import Derived.Test.YtfnophaiamkmpaaPrint0
import Derived.Test.YtfnophaiamkmpaaM0
import Derived.Test.YtfnophaiamkmpaaShelf
import Derived.Lib.OwnBridge
import Derived.Sort.OwnSortedInts
namespace Go.Proofs.Ytfnophaiamkmpaa.Print
set_option linter.unusedVariables false

def ins (x : Int) : List Int → List Int
 | [] => [x]
 | y :: r => if y < x then y :: ins x r else if y = x then y :: r else x :: y :: r
def setOf (l : List Int) : List Int := l.foldl (fun s x => ins x s) []
def Inc (l : List Int) : Prop := l.Pairwise (· < ·)
theorem mem_ins {x y : Int} : ∀ {l : List Int}, y ∈ ins x l ↔ y = x ∨ y ∈ l
 | [] => by simp [ins]
 | z :: r => by
  unfold ins
  split
  ·rw [List.mem_cons, mem_ins, List.mem_cons]
   constructor
   ·rintro (h | h | h)
    ·exact .inr (.inl h)
    ·exact .inl h
    ·exact .inr (.inr h)
   ·rintro (h | h | h)
    ·exact .inr (.inl h)
    ·exact .inl h
    ·exact .inr (.inr h)
  ·split
   ·rename_i h
    rw [List.mem_cons]
    constructor
    ·rintro (h | h)
     ·exact .inr (.inl h)
     ·exact .inr (.inr h)
    ·rintro (h2 | h | h)
     ·exact .inl (h2.trans h.symm)
     ·exact .inl h
     ·exact .inr h
   ·simp
theorem inc_ins {x : Int} : ∀ {l : List Int}, Inc l → Inc (ins x l)
 | [], _ => by simp [ins, Inc]
 | z :: r, h => by
  have h1 := List.pairwise_cons.1 h
  unfold ins
  split
  ·rename_i hz
   refine List.pairwise_cons.2 ⟨fun y hy => ?_, inc_ins h1.2⟩
   rcases mem_ins.1 hy with rfl | hy
   ·exact hz
   ·exact h1.1 y hy
  ·split
   ·exact h
   ·rename_i h2 h3
    refine List.pairwise_cons.2 ⟨fun y hy => ?_, h⟩
    rcases List.mem_cons.1 hy with rfl | hy
    ·omega
    ·have := h1.1 y hy
     omega
theorem inc_unique : ∀ {a b : List Int}, Inc a → Inc b → (∀ x, x ∈ a ↔ x ∈ b) → a = b
 | [], [], _, _, _ => rfl
 | [], y :: s, _, _, h => by have := (h y).2 (by simp); simp at this
 | x :: r, [], _, _, h => by have := (h x).1 (by simp); simp at this
 | x :: r, y :: s, ha, hb, h => by
  have h1 := List.pairwise_cons.1 ha
  have h2 := List.pairwise_cons.1 hb
  have hxy : x = y := by
   have p := (h x).1 (by simp)
   have q := (h y).2 (by simp)
   rcases List.mem_cons.1 p with p | p
   ·exact p
   ·rcases List.mem_cons.1 q with q | q
    ·exact q.symm
    ·have := h1.1 y q
     have := h2.1 x p
     omega
  subst hxy
  congr 1
  refine inc_unique h1.2 h2.2 fun z => ?_
  have hz := h z
  constructor
  ·intro hzr
   have := hz.1 (List.mem_cons_of_mem _ hzr)
   rcases List.mem_cons.1 this with e | e
   ·have := h1.1 z hzr
    omega
   ·exact e
  ·intro hzs
   have := hz.2 (List.mem_cons_of_mem _ hzs)
   rcases List.mem_cons.1 this with e | e
   ·have := h2.1 z hzs
    omega
   ·exact e
theorem foldl_ins (l : List Int) : ∀ s, Inc s → Inc (l.foldl (fun s x => ins x s) s) ∧ ∀ y, y ∈ l.foldl (fun s x => ins x s) s ↔ y ∈ s ∨ y ∈ l := by
 induction l with
 | nil => intro s hs; exact ⟨hs, fun y => by simp⟩
 | cons x r ih =>
  intro s hs
  obtain ⟨h1, h2⟩ := ih (ins x s) (inc_ins hs)
  refine ⟨h1, fun y => ?_⟩
  rw [List.foldl_cons, h2, mem_ins, List.mem_cons]
  constructor
  ·rintro ((h | h) | h)
   ·exact .inr (.inl h)
   ·exact .inl h
   ·exact .inr (.inr h)
  ·rintro (h | h | h)
   ·exact .inl (.inr h)
   ·exact .inl (.inl h)
   ·exact .inr h
theorem inc_setOf (l : List Int) : Inc (setOf l) := (foldl_ins l [] List.Pairwise.nil).1
theorem mem_setOf {l : List Int} {y : Int} : y ∈ setOf l ↔ y ∈ l := by
 have h := (foldl_ins l [] List.Pairwise.nil).2 y
 rw [setOf, h]
 simp

theorem compact_upto (s : List Int) (hs : s.Pairwise (· ≤ ·)) : ∀ m, m ≤ s.length → Inc (Lib.compactUpTo s.toArray m) ∧ ∀ y, y ∈ Lib.compactUpTo s.toArray m ↔ y ∈ s.take m
 | 0, _ => by simp [Lib.compactUpTo, Inc]
 | m + 1, hm => by
  obtain ⟨h1, h2⟩ := compact_upto s hs m (by omega)
  have hlt : m < s.length := by omega
  have hget : s.toArray[m]! = s[m] := by simp [hlt]
  have htake : s.take (m + 1) = s.take m ++ [s[m]] := List.take_succ_eq_append_getElem hlt
  rw [Lib.compactUpTo_succ]
  by_cases hk : Lib.keeps s.toArray m = true
  ·rw [if_pos hk, hget]
   constructor
   ·refine List.pairwise_append.2 ⟨h1, by simp, ?_⟩
    intro a ha b hb
    rw [List.mem_singleton] at hb
    subst hb
    have ha' := (h2 a).1 ha
    obtain ⟨i, hi, rfl⟩ := List.mem_iff_getElem.1 ha'
    have him : i < m := by simp at hi; omega
    rw [List.getElem_take]
    unfold Lib.keeps at hk
    have hk' := of_decide_eq_true hk
    rcases hk' with h0 | hne
    ·omega
    ·have hg1 : s.toArray[m - 1]! = s[m - 1] := by simp [show m - 1 < s.length by omega]
     rw [hget, hg1] at hne
     have hp := List.pairwise_iff_getElem.1 hs
     have h3 := hp (m - 1) m (by omega) hlt (by omega)
     have h4 : s[i] ≤ s[m - 1] := by
      rcases Nat.lt_or_ge i (m - 1) with h | h
      ·exact hp i (m - 1) (by omega) (by omega) h
      ·have : i = m - 1 := by omega
       subst this
       exact Int.le_refl _
     omega
   ·intro y
    rw [List.mem_append, htake, List.mem_append, h2]
  ·rw [if_neg hk, List.append_nil]
   refine ⟨h1, fun y => ?_⟩
   rw [htake, List.mem_append, h2]
   constructor
   ·exact .inl
   ·rintro (h | h)
    ·exact h
    ·rw [List.mem_singleton] at h
     subst h
     unfold Lib.keeps at hk
     have hk' : ¬ (m = 0 ∨ s.toArray[m]! ≠ s.toArray[m - 1]!) := fun h => hk (decide_eq_true h)
     have hm0 : m ≠ 0 := fun h => hk' (.inl h)
     have heq : s.toArray[m]! = s.toArray[m - 1]! := Classical.byContradiction fun h => hk' (.inr h)
     have hg1 : s.toArray[m - 1]! = s[m - 1] := by simp [show m - 1 < s.length by omega]
     rw [hget, hg1] at heq
     rw [heq]
     exact List.mem_iff_getElem.2 ⟨m - 1, by simp; omega, by simp⟩
theorem compact_sort (l : List Int) : Lib.compact (l.mergeSort fun x y => decide (x ≤ y)) = setOf l := by
 have hs : (l.mergeSort fun x y => decide (x ≤ y)).Pairwise (· ≤ ·) := by
  have := List.pairwise_mergeSort (le := fun (x y : Int) => decide (x ≤ y)) (fun a b c h1 h2 => by simp at *; omega) (fun a b => by simp; omega) l
  exact this.imp (fun h => by simpa using h)
 obtain ⟨h1, h2⟩ := compact_upto _ hs _ (Nat.le_refl _)
 refine inc_unique h1 (inc_setOf l) fun x => ?_
 unfold Lib.compact
 rw [h2, List.take_length, mem_setOf]
 exact (List.mergeSort_perm l _).mem_iff
end Go.Proofs.Ytfnophaiamkmpaa.Print
namespace Go.Proofs.Ytfnophaiamkmpaa.Print
open Go.RowKit Go.Proofs.YtfnophaiamkmpaaW.PrintWords Go.Proofs.YtfnophaiamkmpaaW.PrintLast Go.Proofs.YtfnophaiamkmpaaW.PrintMore
set_option linter.unusedVariables false
set_option linter.unusedSimpArgs false

theorem setCell_size (w : World) (a : Addr) (v : Value) : (w.setCell a v).heap.size = w.heap.size := by simp [World.setCell]
/-! ### What a call leaves alone, but for the blocks of T -/
structure Bel (T : Nat → Prop) (w w' : World) : Prop where
 os : w'.os = w.os
 tape : w'.tape = w.tape
 output : w'.output = w.output
 size : w.heap.size ≤ w'.heap.size
 block : ∀ k, k < w.heap.size → ¬ T k → w'.heap[k]? = w.heap[k]?
section
variable {T : Nat → Prop} {W w w1 : World}
theorem Bel.refl (T : Nat → Prop) (w : World) : Bel T w w := ⟨rfl, rfl, rfl, Nat.le_refl _, fun _ _ _ => rfl⟩
theorem Bel.trans (h : Bel T W w) {T' : Nat → Prop} (h' : Bel T' w w1) (hT : ∀ k, k < W.heap.size → T' k → T k) : Bel T W w1 :=
 ⟨h'.os.trans h.os, h'.tape.trans h.tape, h'.output.trans h.output, Nat.le_trans h.size h'.size, fun k hk hn => (h'.block k (Nat.lt_of_lt_of_le hk h.size) (fun x => hn (hT k hk x))).trans (h.block k hk hn)⟩
theorem Bel.below (h : Bel T W w) (h' : Below w.heap.size w w1) : Bel T W w1 :=
 ⟨h'.os.trans h.os, h'.tape.trans h.tape, h'.output.trans h.output, Nat.le_trans h.size h'.size, fun k hk hn => (h'.block k (Nat.lt_of_lt_of_le hk h.size)).trans (h.block k hk hn)⟩
theorem Bel.alloc (h : Bel T W w) (o : Obj) : Bel T W (w.alloc o) := h.below ((Below.refl _ _).alloc (Nat.le_refl _) o)
theorem Bel.drew (h : Bel T W w) : Bel T W w.drew := ⟨h.os, h.tape, h.output, h.size, h.block⟩
theorem Bel.grown (h : Bel T W w) {row : Option Nat} (h' : w.grownBy w1 row) (hr : ∀ k, row = some k → T k ∨ W.heap.size ≤ k) : Bel T W w1 :=
 ⟨h'.os.trans h.os, h'.tape.trans h.tape, h'.output.trans h.output, Nat.le_trans h.size h'.size, fun k hk hn => (h'.block k (Nat.lt_of_lt_of_le hk h.size) (fun e => by
  rcases hr k e.symm with h1 | h1
  ·exact hn h1
  ·omega)).trans (h.block k hk hn)⟩
theorem Bel.setCell (h : Bel T W w) (a : Addr) (v : Value) (ha : T a.block ∨ W.heap.size ≤ a.block) : Bel T W (w.setCell a v) :=
 ⟨h.os, h.tape, h.output, by rw [setCell_size]; exact h.size, fun k hk hn => (Below.heap_setCell w a v k (fun e => by
  rcases ha with h1 | h1
  ·exact hn (e ▸ h1)
  ·omega)).trans (h.block k hk hn)⟩
theorem Bel.out (h : Bel T W w) {base : Nat} (hb : base ≤ W.heap.size) (hT : ∀ k, T k → base ≤ k) : Below base W w :=
 ⟨h.os, h.tape, h.output, h.size, fun k hk => h.block k (Nat.lt_of_lt_of_le hk hb) (fun x => by have := hT k x; omega)⟩
end
theorem nodup_le : ∀ (n : Nat) (l : List Nat), l.Nodup → (∀ x ∈ l, x < n) → l.length ≤ n
 | 0, l, _, h => by
  cases l with
  | nil => simp
  | cons a r => exact absurd (h a (by simp)) (by omega)
 | n + 1, l, hl, h => by
  have h1 := nodup_le n (l.erase n) (hl.erase n) (fun x hx => by
   have hx' := (List.Nodup.mem_erase_iff hl).1 hx
   have := h x hx'.2
   have := hx'.1
   omega)
  rw [List.length_erase] at h1
  split at h1 <;> omega
end Go.Proofs.Ytfnophaiamkmpaa.Print
namespace Go.Proofs.Ytfnophaiamkmpaa.Print
open Go.RowKit Go.Proofs.YtfnophaiamkmpaaW.PrintWords Go.Proofs.YtfnophaiamkmpaaW.PrintLast Go.Proofs.YtfnophaiamkmpaaW.PrintMore
set_option linter.unusedVariables false
set_option linter.unusedSimpArgs false

structure HSt where
 edges : List S58
 num : List ((Int × Int) × Int)
 ups : List (List Int)
 downs : List (List Int)
def hadd (S : HSt) (u v : Nat) : HSt where
 edges := S.edges ++ [⟨(u : Int), (v : Int)⟩]
 num := mput S.num ((u : Int), (v : Int)) (S.edges.length : Int)
 ups := S.ups.set u (S.ups.getD u [] ++ [(S.edges.length : Int)])
 downs := S.downs.set v (S.downs.getD v [] ++ [(u : Int)])
structure HierIs (w : World) (base p : Nat) (o : Tags) (n : Nat) (gv ov rv ev : Value) (mb Bu cu Bd cd : Nat) (vu vd : Nat → Value) (S : HSt) : Prop where
 blk : w.heap[p]? = some (.cells #[.int .i64 (n : Int), gv, ov, rv, ev, .map (some mb), .slice (some ⟨Bu, 0, none⟩) n cu, .slice (some ⟨Bd, 0, none⟩) n cd] 108 (0, 0))
 ptag : o p = (6, 0)
 ed : Kd.R k58 58 w base (fun k => o k = (4, 0)) ev S.edges
 mp : MapIs encP (Value.int .i64) w mb S.num
 mtag : o mb = (5, 0)
 up : RowsIs w base Bu 2 o vu S.ups
 down : RowsIs w base Bd 3 o vd S.downs
 lenu : S.ups.length = n
 lend : S.downs.length = n
 plo : base ≤ p
 mlo : base ≤ mb
section
variable {w w1 : World} {base p : Nat} {o o' : Tags} {n : Nat} {gv ov rv ev : Value} {mb Bu cu Bd cd : Nat} {vu vd : Nat → Value} {S : HSt}
theorem hblk_lt {w : World} {b : Nat} {ob : Obj} (h : w.heap[b]? = some ob) : b < w.heap.size := (Array.getElem?_eq_some_iff.1 h).1
theorem HierIs.keep (h : HierIs w base p o n gv ov rv ev mb Bu cu Bd cd vu vd S) (hs : w.heap.size ≤ w1.heap.size) (hm : ∀ k, k < w.heap.size → 2 ≤ (o k).1 → (o k).1 ≤ 6 → w1.heap[k]? = w.heap[k]?) : HierIs w1 base p o n gv ov rv ev mb Bu cu Bd cd vu vd S :=
 ⟨(hm p (hblk_lt h.blk) (by rw [h.ptag]; decide) (by rw [h.ptag]; decide)).trans h.blk, h.ptag, Kd.R_step h.ed (fun k hk hlt => hm k hlt (by rw [hk]; decide) (by rw [hk]; decide)), h.mp.keep (hm mb h.mp.lt (by rw [h.mtag]; decide) (by rw [h.mtag]; decide)), h.mtag,
  rows_move h.up hs (fun k hk ht => hm k hk (by omega) (by omega)), rows_move h.down hs (fun k hk ht => hm k hk (by omega) (by omega)), h.lenu, h.lend, h.plo, h.mlo⟩
theorem HierIs.drew (h : HierIs w base p o n gv ov rv ev mb Bu cu Bd cd vu vd S) : HierIs w.drew base p o n gv ov rv ev mb Bu cu Bd cd vu vd S := h.keep (Nat.le_refl _) (fun _ _ _ _ => rfl)
theorem HierIs.below (h : HierIs w base p o n gv ov rv ev mb Bu cu Bd cd vu vd S) (hb : Below w.heap.size w w1) : HierIs w1 base p o n gv ov rv ev mb Bu cu Bd cd vu vd S := h.keep hb.size (fun k hk _ _ => hb.block k hk)
theorem HierIs.base_le (h : HierIs w base p o n gv ov rv ev mb Bu cu Bd cd vu vd S) : base ≤ w.heap.size := by
 have := hblk_lt h.blk
 have := h.plo
 omega
theorem HierIs.re {w2 : World} (h : HierIs w base p o n gv ov rv ev mb Bu cu Bd cd vu vd S) (ho : ∀ k, k < w.heap.size → o' k = o k) (hs : w.heap.size ≤ w2.heap.size) {C : Nat → Prop} (hm : ∀ k, k < w.heap.size → ¬ C k → w2.heap[k]? = w.heap[k]?) :
  (¬ C p → w2.heap[p]? = some (.cells #[.int .i64 (n : Int), gv, ov, rv, ev, .map (some mb), .slice (some ⟨Bu, 0, none⟩) n cu, .slice (some ⟨Bd, 0, none⟩) n cd] 108 (0, 0))) ∧ o' p = (6, 0) ∧
  ((∀ k, o k = (4, 0) → ¬ C k) → Kd.R k58 58 w2 base (fun k => o' k = (4, 0)) ev S.edges) ∧ (¬ C mb → MapIs encP (Value.int .i64) w2 mb S.num) ∧ o' mb = (5, 0) ∧
  ((∀ k, (o k).1 = 2 → ¬ C k) → RowsIs w2 base Bu 2 o' vu S.ups) ∧ ((∀ k, (o k).1 = 3 → ¬ C k) → RowsIs w2 base Bd 3 o' vd S.downs) := by
 refine ⟨fun hc => (hm p (hblk_lt h.blk) hc).trans h.blk, by rw [ho p (hblk_lt h.blk)]; exact h.ptag, fun hc => ?_, fun hc => h.mp.keep (hm mb h.mp.lt hc), by rw [ho mb h.mp.lt]; exact h.mtag, fun hc => ?_, fun hc => ?_⟩
 ·have h1 := Kd.R_step h.ed (w1 := w2) (fun k hk hlt => hm k hlt (hc k hk))
  exact Kd.R_reok rfl h1 (fun k hk => by
   have h2 := h.ed.1 k hk
   show o' k = (4, 0)
   rw [ho k (Kd.R_lt h.ed k hk)]
   exact h2)
 ·exact rows_move (h.up.retag ho) hs (fun k hk ht => hm k hk (hc k (by rw [← ho k hk]; exact ht)))
 ·exact rows_move (h.down.retag ho) hs (fun k hk ht => hm k hk (hc k (by rw [← ho k hk]; exact ht)))
theorem HierIs.edPut (h : HierIs w base p o n gv ov rv ev mb Bu cu Bd cd vu vd S) {v1 : Value} {es : List S58} (hr : Kd.R k58 58 w1 base (fun _ => True) v1 es) (hg : w.grownBy w1 ev.ownBlock) (hat : v1.ownBlock = ev.ownBlock ∨ ∃ b, v1.ownBlock = some b ∧ w.heap.size ≤ b) :
  ∃ o', (∀ k, k < w.heap.size → o' k = o k) ∧ HierIs (w1.setCell ⟨p, 4, none⟩ v1) base p o' n gv ov rv v1 mb Bu cu Bd cd vu vd { S with edges := es } := by
 have hp4 : ∀ k, ev.ownBlock = some k → o k = (4, 0) := h.ed.1
 obtain ⟨o', ho1, ho2⟩ : ∃ o' : Tags, (∀ k, k < w.heap.size → o' k = o k) ∧ (∀ k, v1.ownBlock = some k → o' k = (4, 0)) := by
  rcases hat with e | ⟨b, e, hb⟩
  ·exact ⟨o, fun _ _ => rfl, fun k hk => hp4 k (by rw [← e]; exact hk)⟩
  ·refine ⟨tagPut o b (4, 0), fun k hk => ?_, fun k hk => ?_⟩
   ·unfold tagPut
    rw [if_neg (by omega)]
   ·rw [e] at hk
    injection hk with hk
    subst hk
    unfold tagPut
    rw [if_pos rfl]
 have hsz : (w1.setCell ⟨p, 4, none⟩ v1).heap.size = w1.heap.size := by simp [World.setCell]
 have hpe : some p ≠ ev.ownBlock := fun e => by
  have h1 := hp4 p e.symm
  rw [h.ptag] at h1
  simp at h1
 obtain ⟨a1, a2, a3, a4, a5, a6, a7⟩ := h.re (w2 := w1.setCell ⟨p, 4, none⟩ v1) (C := fun k => o k = (4, 0) ∨ k = p) ho1 (by rw [hsz]; exact hg.size) (fun k hk hc => by
  rw [Below.heap_setCell _ _ _ _ (fun e => hc (.inr e))]
  exact hg.block k hk (fun e => hc (.inl (hp4 k e.symm))))
 refine ⟨o', ho1, ⟨?_, a2, ?_, a4 (fun hc => ?_), a5, a6 (fun k hk hc => ?_), a7 (fun k hk hc => ?_), h.lenu, h.lend, h.plo, h.mlo⟩⟩
 ·have hb := (hg.block p (hblk_lt h.blk) hpe).trans h.blk
  simp [World.setCell, Array.getElem?_modify, hb]
 ·refine Kd.R_step (Kd.R_reok rfl hr ho2) (fun k hk hlt => Below.heap_setCell _ _ _ _ (fun e => ?_))
  have e' : k = p := e
  rw [e', a2] at hk
  simp at hk
 ·rcases hc with hc | hc
  ·rw [h.mtag] at hc
   simp at hc
  ·have h1 := h.mtag
   rw [hc, h.ptag] at h1
   simp at h1
 ·rcases hc with hc | hc
  ·rw [hc] at hk
   simp at hk
  ·rw [hc, h.ptag] at hk
   simp at hk
 ·rcases hc with hc | hc
  ·rw [hc] at hk
   simp at hk
  ·rw [hc, h.ptag] at hk
   simp at hk
theorem HierIs.mapPut (h : HierIs w base p o n gv ov rv ev mb Bu cu Bd cd vu vd S) {m : List ((Int × Int) × Int)} (hm : MapIs encP (Value.int .i64) w1 mb m) (hg : w.grownBy w1 (some mb)) : HierIs w1 base p o n gv ov rv ev mb Bu cu Bd cd vu vd { S with num := m } := by
 obtain ⟨a1, a2, a3, a4, a5, a6, a7⟩ := h.re (o' := o) (w2 := w1) (C := fun k => k = mb) (fun _ _ => rfl) hg.size (fun k hk hc => hg.block k hk (fun e => hc (Option.some.inj e)))
 have hne : ∀ k, o k ≠ (5, 0) → k ≠ mb := fun k hk e => hk (by rw [e]; exact h.mtag)
 exact ⟨a1 (hne p (by rw [h.ptag]; decide)), a2, a3 (fun k hk => hne k (by rw [hk]; decide)), hm, a5, a6 (fun k hk => hne k (fun e => by rw [e] at hk; simp at hk)), a7 (fun k hk => hne k (fun e => by rw [e] at hk; simp at hk)), h.lenu, h.lend, h.plo, h.mlo⟩
theorem HierIs.upPut (h : HierIs w base p o n gv ov rv ev mb Bu cu Bd cd vu vd S) {vu' : Nat → Value} {ups : List (List Int)} (ho : ∀ k, k < w.heap.size → o' k = o k) (hs : w.heap.size ≤ w1.heap.size) (hm : ∀ k, k < w.heap.size → (o k).1 ≠ 2 → w1.heap[k]? = w.heap[k]?) (hr : RowsIs w1 base Bu 2 o' vu' ups) (hl : ups.length = n) :
  HierIs w1 base p o' n gv ov rv ev mb Bu cu Bd cd vu' vd { S with ups := ups } := by
 obtain ⟨a1, a2, a3, a4, a5, a6, a7⟩ := h.re (w2 := w1) (C := fun k => (o k).1 = 2) ho hs (fun k hk hc => hm k hk hc)
 exact ⟨a1 (by rw [h.ptag]; decide), a2, a3 (fun k hk => by rw [hk]; decide), a4 (by rw [h.mtag]; decide), a5, hr, a7 (fun k hk => by rw [hk]; decide), hl, h.lend, h.plo, h.mlo⟩
theorem HierIs.downPut (h : HierIs w base p o n gv ov rv ev mb Bu cu Bd cd vu vd S) {vd' : Nat → Value} {downs : List (List Int)} (ho : ∀ k, k < w.heap.size → o' k = o k) (hs : w.heap.size ≤ w1.heap.size) (hm : ∀ k, k < w.heap.size → (o k).1 ≠ 3 → w1.heap[k]? = w.heap[k]?) (hr : RowsIs w1 base Bd 3 o' vd' downs) (hl : downs.length = n) :
  HierIs w1 base p o' n gv ov rv ev mb Bu cu Bd cd vu vd' { S with downs := downs } := by
 obtain ⟨a1, a2, a3, a4, a5, a6, a7⟩ := h.re (w2 := w1) (C := fun k => (o k).1 = 3) ho hs (fun k hk hc => hm k hk hc)
 exact ⟨a1 (by rw [h.ptag]; decide), a2, a3 (fun k hk => by rw [hk]; decide), a4 (by rw [h.mtag]; decide), a5, a6 (fun k hk => by rw [hk]; decide), hr, h.lenu, hl, h.plo, h.mlo⟩
end
def HT (o : Tags) (k : Nat) : Prop := 2 ≤ (o k).1 ∧ (o k).1 ≤ 6
theorem pKey : KeyKind Try.prog 130 encP := by
 obtain ⟨i, h1, hh⟩ := Option.map_eq_some_iff.1 info3
 simp only [Prod.mk.injEq] at hh
 exact pairKey Try.underlying130 Try.underlying3 h1 hh.2.1

set_option maxHeartbeats 3200000 in
set_option maxRecDepth 100000 in
theorem Hier_add.calls {w : World} {base p : Nat} {o : Tags} {n : Nat} {gv ov rv ev : Value} {mb Bu cu Bd cd : Nat} {vu vd : Nat → Value} {S : HSt} (u v : Nat) (h : HierIs w base p o n gv ov rv ev mb Bu cu Bd cd vu vd S) (hu : u < n) (hv : v < n)
  (hlen : S.edges.length ≤ 1000000000) (hlenup : (S.ups.getD u []).length ≤ 1000000000) (hlendown : (S.downs.getD v []).length ≤ 1000000000) :
  Calls Try.prog 86 #[.pointer (some ⟨p, 0, none⟩), .int .i64 (u : Int), .int .i64 (v : Int)] w fun e w' => e = .returned (.tuple #[]) ∧ Bel (HT o) w w' ∧
   ∃ o' ev' vu' vd', (∀ k, k < w.heap.size → o' k = o k) ∧ HierIs w' base p o' n gv ov rv ev' mb Bu cu Bd cd vu' vd' (hadd S u v) := by
 have H0 := Aside0.mk h
 obtain ⟨ru, HRU⟩ : ∃ x, Aside0 (S.ups.getD u [] = x) := ⟨_, ⟨rfl⟩⟩
 obtain ⟨rv_, HRV⟩ : ∃ x, Aside0 (S.downs.getD v [] = x) := ⟨_, ⟨rfl⟩⟩
 rw [HRU.out] at hlenup
 rw [HRV.out] at hlendown
 obtain ⟨Ae, ce, rfl⟩ := Kd.R_slice h.ed
 have hc4 := (blk_cell h.blk 4).trans rfl
 have hb := h.base_le
 clear h
 go_enter Try.func86, Try.ntmps86
 go_upto_region 2 with (
  refine Kd.R_append k58 (w0 := w) base (by rfl) (.tmp 16) (.tmp 20) 22 58 (.agg #[(.int .i64 0), (.int .i64 0)]) 16 rfl Try.underlying22 info58 rfl (by decide) (by decide) (.slice Ae S.edges.length ce) S.edges ⟨(u : Int), (v : Int)⟩ [.int .i64 (u : Int), .int .i64 (v : Int)] (fun _ => True) (fun _ => False) rfl rfl ?aP (fun _ hk => hk.elim) ?aF ?aO ?aB ?aS ?aL ?_
  (case aP => exact k58_mkM _ _ _ _)
  (case aF => exact (fun _ _ => trivial))
  (case aO => exact Kd.R_mono H0.out.ed (fun _ _ => trivial))
  (case aB => exact Below.refl _ _)
  (case aS => exact hb)
  (case aL => omega)
  intro v1 w1 ho1 hb1 hg1 hat1
  obtain ⟨A1, c1, rfl⟩ := Kd.R_slice ho1
  have HR1 := Aside0.mk ho1
  have HG1 := Aside0.mk hg1
  have HAT1 := Aside0.mk hat1
  have hc4b : w1.cell? ⟨p, 4, none⟩ = some (.slice Ae S.edges.length ce) := cell_grown hg1 hc4 (fun e => by have h1 : o p = (4, 0) := H0.out.ed.1 p e.symm; rw [H0.out.ptag] at h1; simp at h1)
  have hf4 : w1.frozen? ⟨p, 4, none⟩ = false := blk_frozen ((hg1.block p (hblk_lt H0.out.blk) (fun e => by have h1 : o p = (4, 0) := H0.out.ed.1 p e.symm; rw [H0.out.ptag] at h1; simp at h1)).trans H0.out.blk) 4
  clear ho1 hb1 hg1 hat1 hc4)
 obtain ⟨o2, HO2, HI2⟩ := H0.out.edPut HR1.out HG1.out HAT1.out
 have HO2 := Aside0.mk HO2
 have HI2 := Aside0.mk HI2
 have hle : (S.edges ++ [(⟨(u : Int), (v : Int)⟩ : S58)]).length = S.edges.length + 1 := by simp
 rw [hle] at HI2
 have HE2 : Aside0 (Bel (HT o) w (w1.setCell ⟨p, 4, none⟩ (.slice A1 (S.edges.length + 1) c1))) := ⟨((Bel.refl (HT o) w).grown HG1.out (fun k hk => .inl (by have h1 : o k = (4, 0) := H0.out.ed.1 k hk; unfold HT; rw [h1]; decide))).setCell _ _ (.inl (by unfold HT; rw [H0.out.ptag]; decide))⟩
 generalize w1.setCell ⟨p, 4, none⟩ (.slice A1 (S.edges.length + 1) c1) = w2 at HE2 HI2 ⊢
 have hc5 := (blk_cell HI2.out.blk 5).trans rfl
 clear hc4b hf4 hle HR1 HG1 HAT1
 go_upto_region 3 with (
  refine wp_mapUpdate_map pKey Try.underlying98 rfl _ _ _ rfl rfl HI2.out.mp ((u : Int), (v : Int)) (S.edges.length : Int) rfl rfl rfl ?_
  intro w3 hm1 hg1
  have HI := Aside0.mk (HI2.out.mapPut hm1 hg1)
  have HE := Aside0.mk (HE2.out.grown hg1 (fun k hk => .inl (by injection hk with hk; unfold HT; rw [← hk, ← HO2.out mb H0.out.mp.lt, HI2.out.mtag]; decide)))
  have HS3 := Aside0.mk hg1.size
  clear hm1 hg1 hc5)
 have hcp := (blk_cell HI.out.blk 6).trans rfl
 have hcr := HI.out.up.cell u (by rw [HI.out.lenu]; exact hu)
 refine s_ (fun w' => w'.cell? ⟨p, 6, none⟩ = some (.slice (some ⟨Bu, 0, none⟩) n cu) ∧ w'.cell? ⟨Bu, u, none⟩ = some (vu u)) [16] ⟨hcp, hcr⟩ (fun hHeld => ?_)
 have HD := Aside0.mk (HI.out.drew)
 have HED := Aside0.mk (HE.out.drew)
 generalize w3.drew = wd at HD HED hHeld ⊢
 refine p_ 0 32 ?_
 refine p_ 1 33 ?_
 refine p_ 2 34 ?_
 refine t2_ 3 35 hHeld ?_
 refine p_ 4 36 ?_
 refine p_ 5 37 ?_
 refine p_ 6 38 ?_
 refine p_ 7 39 ?_
 refine t2_ 8 40 hHeld ?_
 refine p_ 9 41 ?_
 refine p_ 10 42 ?_
 refine t2_ 11 43 hHeld ?_
 refine p_ 12 44 ?_
 have HH1 := Aside0.mk hHeld
 refine o_ 13 45 (fun K hK => ?_)
 refine value_ (w1 := ?_) (v := ?_) (by rfl) rfl ?_ ?_; rotate_left 2; (·go_simp; constructor; (·rfl); (·rfl))
 refine hK.out _ _ ⟨(World.cell?_alloc_lt _ _ _ (World.block_lt_of_cell? _ _ hHeld.1)).trans hHeld.1, (World.cell?_alloc_lt _ _ _ (World.block_lt_of_cell? _ _ hHeld.2)).trans hHeld.2⟩ (fun hHeld => ?_)
 clear hK K
 refine n_ 45 ?_
 refine o_ 14 46 (fun K hK => ?_)
 refine Kd.R_append_step (Kd.int .i64) (w0 := wd) base (by rfl) (.tmp 43) (.tmp 45) 25 3 (.int .i64 0) 8 rfl Try.underlying25 info3 rfl (by decide) (by decide) (vu u) ru ((S.edges.length : Int)) [.int .i64 ((S.edges.length : Int))] (fun _ => True) (fun _ => False) rfl rfl ?aP (fun _ hk => hk.elim) ?aF ?aO ?aB ?aS ?aL ?_
 (case aP => exact rfl)
 (case aF => exact (fun _ _ => trivial))
 (case aO => rw [← HRU.out]; exact Kd.R_mono (HD.out.up.row u (by rw [HD.out.lenu]; exact hu)) (fun _ _ => trivial))
 (case aB => exact Below.refl _ _)
 (case aS => exact HD.out.base_le)
 (case aL => have := hlenup; omega)
 intro v6 w6 ho6 hb6 hg6 hat6
 obtain ⟨A6, c6, he6⟩ := Kd.R_slice ho6
 rw [show (ru ++ [((S.edges.length : Int))]).length = ru.length + 1 by simp] at he6
 subst he6
 obtain ⟨o6, ho61, ho62, HRP⟩ := HD.out.up.put (by rw [HD.out.lenu]; exact hu) ho6 hg6 hat6
 have HG6 := Aside0.mk hg6
 have HO61 := Aside0.mk ho61
 have HRP := Aside0.mk HRP
 have HT6 : Aside0 (∀ k, (vu u).ownBlock = some k → o2 k = (2, u + 1)) := ⟨(HD.out.up.row u (by rw [HD.out.lenu]; exact hu)).1⟩
 clear ho6 hb6 hg6 hat6 ho61 ho62
 have hS1 : w6.cell? ⟨p, 6, none⟩ = some (.slice (some ⟨Bu, 0, none⟩) n cu) := cell_grown HG6.out HH1.out.1 (fun e => by have h1 := HT6.out p e.symm; rw [HD.out.ptag] at h1; simp at h1)
 have hS2 : w6.cell? ⟨Bu, u, none⟩ = some (vu u) := cell_grown HG6.out HH1.out.2 (fun e => by have h1 := HT6.out Bu e.symm; rw [HD.out.up.own] at h1; simp at h1)
 have hfz : w6.frozen? ⟨Bu, u, none⟩ = false := (World.frozen?_of_block (HG6.out.block Bu HD.out.up.top (fun e => by have h1 := HT6.out Bu e.symm; rw [HD.out.up.own] at h1; simp at h1))).trans (HD.out.up.frz u)
 refine hK.out _ _ ⟨hS1, hS2⟩ (fun hHeld => ?_)
 clear hK K
 refine n_ 46 ?_
 refine p_ 15 47 ?_
 refine l_ 16 (fun K hK => ?_)
 refine skip_ (w1 := ?_) (by rfl) rfl ?_ ?_
 rotate_left; (·go_simp; rfl)
 refine hK.out _ _ ?_
 clear hK K hHeld hS1 hS2 hfz
 refine d_ ?_
 have HI5 := Aside0.mk (HD.out.upPut HO61.out (by rw [setCell_size]; exact HG6.out.size) (fun k hk ht => (Below.heap_setCell _ _ _ _ (fun e => ht (by rw [show k = Bu from e, HD.out.up.own]))).trans (HG6.out.block k hk (fun e => ht (by rw [HT6.out k e.symm])))) HRP.out (by rw [List.length_set]; exact HD.out.lenu))
 have HO5 : Aside0 (∀ k, k < w.heap.size → o6 k = o k) := ⟨fun k hk => (HO61.out k (Nat.lt_of_lt_of_le hk HED.out.size)).trans (HO2.out k hk)⟩
 have HE5 := Aside0.mk ((HED.out.grown HG6.out (fun k hk => by
  by_cases hlt : k < w.heap.size
  ·left
   unfold HT
   rw [← HO2.out k hlt, HT6.out k hk]
   simp
  ·right
   omega)).setCell ⟨Bu, u, none⟩ (.slice A6 (ru.length + 1) c6) (by
  by_cases hlt : Bu < w.heap.size
  ·left
   unfold HT
   show 2 ≤ (o Bu).1 ∧ (o Bu).1 ≤ 6
   rw [← HO2.out Bu hlt, HD.out.up.own]
   simp
  ·right
   show w.heap.size ≤ Bu
   omega))
 generalize w6.setCell ⟨Bu, u, none⟩ (.slice A6 (ru.length + 1) c6) = w5 at HI5 HE5 ⊢
 clear HI HE HS3 HD HED HH1 HG6 HO61 HRP HT6 HI2 HE2 HO2 hcp hcr
 obtain ⟨oA, hoA⟩ : ∃ q, q = o6 := ⟨_, rfl⟩
 subst hoA
 have HOA := HO5
 have HI := HI5
 have HE := HE5
 clear HO5 HI5 HE5
 go_upto_region 4 with (fail)
 have hcp := (blk_cell HI.out.blk 7).trans rfl
 have hcr := HI.out.down.cell v (by rw [HI.out.lend]; exact hv)
 refine s_ (fun w' => w'.cell? ⟨p, 7, none⟩ = some (.slice (some ⟨Bd, 0, none⟩) n cd) ∧ w'.cell? ⟨Bd, v, none⟩ = some (vd v)) [16] ⟨hcp, hcr⟩ (fun hHeld => ?_)
 have HD := Aside0.mk (HI.out.drew)
 have HED := Aside0.mk (HE.out.drew)
 generalize w5.drew = wd at HD HED hHeld ⊢
 refine p_ 0 48 ?_
 refine p_ 1 49 ?_
 refine p_ 2 50 ?_
 refine t2_ 3 51 hHeld ?_
 refine p_ 4 52 ?_
 refine p_ 5 53 ?_
 refine p_ 6 54 ?_
 refine p_ 7 55 ?_
 refine t2_ 8 56 hHeld ?_
 refine p_ 9 57 ?_
 refine p_ 10 58 ?_
 refine t2_ 11 59 hHeld ?_
 refine p_ 12 60 ?_
 have HH1 := Aside0.mk hHeld
 refine o_ 13 61 (fun K hK => ?_)
 refine value_ (w1 := ?_) (v := ?_) (by rfl) rfl ?_ ?_; rotate_left 2; (·go_simp; constructor; (·rfl); (·rfl))
 refine hK.out _ _ ⟨(World.cell?_alloc_lt _ _ _ (World.block_lt_of_cell? _ _ hHeld.1)).trans hHeld.1, (World.cell?_alloc_lt _ _ _ (World.block_lt_of_cell? _ _ hHeld.2)).trans hHeld.2⟩ (fun hHeld => ?_)
 clear hK K
 refine n_ 61 ?_
 refine o_ 14 62 (fun K hK => ?_)
 refine Kd.R_append_step (Kd.int .i64) (w0 := wd) base (by rfl) (.tmp 59) (.tmp 61) 25 3 (.int .i64 0) 8 rfl Try.underlying25 info3 rfl (by decide) (by decide) (vd v) rv_ ((u : Int)) [.int .i64 ((u : Int))] (fun _ => True) (fun _ => False) rfl rfl ?aP (fun _ hk => hk.elim) ?aF ?aO ?aB ?aS ?aL ?_
 (case aP => exact rfl)
 (case aF => exact (fun _ _ => trivial))
 (case aO => rw [← HRV.out]; exact Kd.R_mono (HD.out.down.row v (by rw [HD.out.lend]; exact hv)) (fun _ _ => trivial))
 (case aB => exact Below.refl _ _)
 (case aS => exact HD.out.base_le)
 (case aL => have := hlendown; omega)
 intro v6 w6 ho6 hb6 hg6 hat6
 obtain ⟨A6, c6, he6⟩ := Kd.R_slice ho6
 rw [show (rv_ ++ [((u : Int))]).length = rv_.length + 1 by simp] at he6
 subst he6
 obtain ⟨o6, ho61, ho62, HRP⟩ := HD.out.down.put (by rw [HD.out.lend]; exact hv) ho6 hg6 hat6
 have HG6 := Aside0.mk hg6
 have HO61 := Aside0.mk ho61
 have HRP := Aside0.mk HRP
 have HT6 : Aside0 (∀ k, (vd v).ownBlock = some k → oA k = (3, v + 1)) := ⟨(HD.out.down.row v (by rw [HD.out.lend]; exact hv)).1⟩
 clear ho6 hb6 hg6 hat6 ho61 ho62
 have hS1 : w6.cell? ⟨p, 7, none⟩ = some (.slice (some ⟨Bd, 0, none⟩) n cd) := cell_grown HG6.out HH1.out.1 (fun e => by have h1 := HT6.out p e.symm; rw [HD.out.ptag] at h1; simp at h1)
 have hS2 : w6.cell? ⟨Bd, v, none⟩ = some (vd v) := cell_grown HG6.out HH1.out.2 (fun e => by have h1 := HT6.out Bd e.symm; rw [HD.out.down.own] at h1; simp at h1)
 have hfz : w6.frozen? ⟨Bd, v, none⟩ = false := (World.frozen?_of_block (HG6.out.block Bd HD.out.down.top (fun e => by have h1 := HT6.out Bd e.symm; rw [HD.out.down.own] at h1; simp at h1))).trans (HD.out.down.frz v)
 refine hK.out _ _ ⟨hS1, hS2⟩ (fun hHeld => ?_)
 clear hK K
 refine n_ 62 ?_
 refine p_ 15 63 ?_
 refine l_ 16 (fun K hK => ?_)
 refine skip_ (w1 := ?_) (by rfl) rfl ?_ ?_
 rotate_left; (·go_simp; rfl)
 refine hK.out _ _ ?_
 clear hK K hHeld hS1 hS2 hfz
 refine d_ ?_
 have HI7 := Aside0.mk (HD.out.downPut HO61.out (by rw [setCell_size]; exact HG6.out.size) (fun k hk ht => (Below.heap_setCell _ _ _ _ (fun e => ht (by rw [show k = Bd from e, HD.out.down.own]))).trans (HG6.out.block k hk (fun e => ht (by rw [HT6.out k e.symm])))) HRP.out (by rw [List.length_set]; exact HD.out.lend))
 have HO7 : Aside0 (∀ k, k < w.heap.size → o6 k = o k) := ⟨fun k hk => (HO61.out k (Nat.lt_of_lt_of_le hk HED.out.size)).trans (HOA.out k hk)⟩
 have HE7 := Aside0.mk ((HED.out.grown HG6.out (fun k hk => by
  by_cases hlt : k < w.heap.size
  ·left
   unfold HT
   rw [← HOA.out k hlt, HT6.out k hk]
   simp
  ·right
   omega)).setCell ⟨Bd, v, none⟩ (.slice A6 (rv_.length + 1) c6) (by
  by_cases hlt : Bd < w.heap.size
  ·left
   unfold HT
   show 2 ≤ (o Bd).1 ∧ (o Bd).1 ≤ 6
   rw [← HOA.out Bd hlt, HD.out.down.own]
   simp
  ·right
   show w.heap.size ≤ Bd
   omega))
 generalize w6.setCell ⟨Bd, v, none⟩ (.slice A6 (rv_.length + 1) c6) = w7 at HI7 HE7 ⊢
 go_wp2
 go_end0
 have hfin := HI7.out
 rw [← HRU.out, ← HRV.out] at hfin
 exact ⟨rfl, HE7.out, o6, HO7.out, _, _, _, hfin⟩
end Go.Proofs.Ytfnophaiamkmpaa.Print
namespace Go.Proofs.Ytfnophaiamkmpaa.Print
open Go.RowKit Go.Proofs.YtfnophaiamkmpaaW.PrintWords Go.Proofs.YtfnophaiamkmpaaW.PrintLast Go.Proofs.YtfnophaiamkmpaaW.PrintMore
set_option linter.unusedVariables false
set_option linter.unusedSimpArgs false

theorem spot_of_cell {w : World} {ad : Addr} {v : Value} (h : w.cell? (ad.add 0) = some v) : ad = ⟨ad.block, ad.off, none⟩ := by
 have h0 : ad.add 0 = ad := by simp [Addr.add]
 rw [h0] at h
 unfold World.cell? at h
 cases hs : ad.spot with
 | none => cases ad; simp_all
 | some s =>
  rw [hs] at h
  split at h <;> simp at h
theorem cells_of_C {w : World} {A : Option Addr} {n : Nat} {l : List Int} (h : Kd.C (Kd.int .i64) w A n l) :
  (n = 0 ∧ l = []) ∨ (0 < n ∧ ∃ b off, A = some ⟨b, off, none⟩ ∧ ∀ j, j < l.length → w.cell? ⟨b, off + j, none⟩ = some (.int .i64 (l.getD j 0))) := by
 obtain ⟨hl, hm, hc⟩ := h
 rcases Nat.eq_zero_or_pos n with h0 | h0
 ·left
  exact ⟨h0, List.eq_nil_of_length_eq_zero (hl.trans h0)⟩
 ·right
  obtain ⟨ad, hA, hc2⟩ := hc h0
  subst hA
  have hcell : ∀ j, j < l.length → w.cell? (ad.add j) = some (.int .i64 (l.getD j 0)) := by
   intro j hj
   obtain ⟨c, hs, hr, hcc⟩ := hc2 j _ (List.getElem?_eq_getElem hj)
   have hr' : c = [.int .i64 (l[j])] := hr
   subst hr'
   have := hcc 0 _ rfl
   rw [show (Kd.int .i64).sz = 1 from rfl, Nat.mul_one, Nat.add_zero] at this
   rw [this]
   simp [List.getElem?_eq_getElem hj]
  have h1 := hcell 0 (by omega)
  have hs := spot_of_cell h1
  refine ⟨h0, ad.block, ad.off, congrArg some hs, fun j hj => ?_⟩
  have h2 := hcell j hj
  have : ad.add j = ⟨ad.block, ad.off + j, none⟩ := by
   unfold Addr.add
   split
   ·rename_i hz
    subst hz
    exact hs
   ·rfl
  rw [← this]
  exact h2
theorem clone_C (A : Option Addr) (n c : Nat) (l : List Int) (w : World) (hr : Kd.C (Kd.int .i64) w A n l) (hb : n * 8 ≤ 140737488355328) :
  Calls Try.prog 57 #[.slice A n c] w fun e w' => ∃ v' : Value, e = .returned v' ∧ w'.ownsRow w.heap.size 3 1 v' n (nums .i64 l) ∧ Below w.heap.size w w' := by
 rcases cells_of_C hr with ⟨rfl, rfl⟩ | ⟨h0, b, off, rfl, hc⟩
 ·cases A with
  | none =>
   refine (Try.slices_Clone_int_nil 0 c w).mono ?_
   rintro e w' ⟨rfl, rfl⟩
   exact ⟨_, rfl, own_nil _ _ _ _, Below.refl _ _⟩
  | some a =>
   refine (Try.slices_Clone_int_zero a c w).mono ?_
   rintro e w' ⟨v', rfl, ho, _, hB⟩
   exact ⟨_, rfl, by simpa [nums] using ho, hB⟩
 ·have hl : l.length = n := hr.1
  refine (Try.slices_Clone_int b off n c l w (by omega) hb hc).mono ?_
  rintro e w' ⟨v', rfl, ho, _, hB⟩
  rw [← hl, List.take_length, hl] at ho
  exact ⟨_, rfl, ho, hB⟩
theorem sort_own (base : Nat) (v : Value) (l : List Int) (w : World) (ho : w.ownsRow base 3 1 v l.length (nums .i64 l)) (hl : l.length < 4611686018427387904) :
  Calls Try.prog 96 #[v] w fun e w' => e = .returned (.tuple #[]) ∧ w'.ownsRow base 3 1 v l.length (nums .i64 (l.mergeSort fun x y => decide (x ≤ y))) ∧ w.grownBy w' v.ownBlock := by
 by_cases hv : v = .slice none 0 0
 ·subst hv
  have h0 : l = [] := by
   rcases ho.2 with ⟨_, h⟩ | ⟨g, cap, cur, h, _⟩
   ·exact List.eq_nil_of_length_eq_zero h
   ·cases h
  subst h0
  refine (Try.slices_Sort_int_none none 0 w).mono ?_
  rintro e w' ⟨rfl, rfl⟩
  exact ⟨rfl, by simpa using ho, World.grownBy.refl _ _⟩
 ·obtain ⟨g, cap, rfl, hbg, hgl, hncap, hcm, hlen, hH⟩ := Lib.holds_of_ownsRow (zs := l) ho hv
  refine (Try.slices_Sort_int g 0 cap l w hH hgl hl).mono ?_
  rintro e w' ⟨rfl, n, os, rfl⟩
  rcases ho.2 with ⟨h0, _⟩ | ⟨g', cap', cur, hv', hbase, hb, h1, h2, h3, h4⟩
  ·cases h0
  cases hv'
  exact ⟨rfl, ownsRow_sortedI (n := n) (os := os) (ts := l.mergeSort fun x y => decide (x ≤ y)) (List.length_mergeSort l) hbase hb h1 h2 h3, grownBy_sortedI _⟩
theorem compact_own (base : Nat) (v : Value) (l : List Int) (w : World) (ho : w.ownsRow base 3 1 v l.length (nums .i64 l)) :
  Calls Try.prog 97 #[v] w fun e w' => ∃ v' : Value, e = .returned v' ∧ w'.ownsRow base 3 1 v' (Lib.compact l).length (nums .i64 (Lib.compact l)) ∧ w.grownBy w' v.ownBlock ∧ v'.ownBlock = v.ownBlock := by
 by_cases hv : v = .slice none 0 0
 ·subst hv
  have h0 : l = [] := by
   rcases ho.2 with ⟨_, h⟩ | ⟨g, cap, cur, h, _⟩
   ·exact List.eq_nil_of_length_eq_zero h
   ·cases h
  subst h0
  refine (Try.slices_Compact_int_empty none 0 w).mono ?_
  rintro e w' ⟨rfl, rfl⟩
  exact ⟨_, rfl, own_nil _ _ _ _, World.grownBy.refl _ _, rfl⟩
 ·obtain ⟨g, cap, rfl, hbg, hgl, hncap, hcm, hlen, hH⟩ := Lib.holds_of_ownsRow (zs := l) ho hv
  simp only [maxLen] at hcm
  refine (Try.slices_Compact_int g 0 cap l w hH (by omega) hncap).mono ?_
  rintro e w' ⟨rfl, q, rfl⟩
  have hle := Lib.compact_length_le l
  have hc := Lib.ownsRow_putRow (q := q) (k := (Lib.compact l).length) (ys := Lib.compact l ++ List.replicate (l.length - (Lib.compact l).length) 0) (zs := l) ho (by simp; omega) (by omega)
  rw [List.take_left] at hc
  refine ⟨_, rfl, hc, ?_, rfl⟩
  have := grownBy_sortedI (w := w) (g := g) (n := q) (os := #[]) (Lib.compact l ++ List.replicate (l.length - (Lib.compact l).length) 0).toArray
  rw [Sort.grow_empty] at this
  exact this

def sets_Of.f (l0 : List Int) : Option (List Int) := if l0.length < 17592186044416 then some (setOf l0) else none

theorem R_of_owns {w : World} {base : Nat} {v : Value} {l : List Int} (h : w.ownsRow base 3 1 v l.length (nums .i64 l)) : Kd.R (Kd.int .i64) 3 w base (fun _ => True) v l :=
 ⟨fun _ _ => trivial, nums .i64 l, h, by show (nums .i64 l).length = l.length * 1; simp [nums], fun j p hj => by
  have hjl := (List.getElem?_eq_some_iff.1 hj).1
  have hp : p = l[j] := (List.getElem?_eq_some_iff.1 hj).2.symm
  subst hp
  show (List.take 1 (List.drop (j * 1) (nums .i64 l))) = [Value.int .i64 l[j]]
  rw [Nat.mul_one, nums, ← List.map_drop, List.drop_eq_getElem_cons hjl]
  rfl⟩

set_option maxHeartbeats 800000 in
theorem sets_Of.calls (A0 : Option Addr) (c0 : Nat) (l0 : List Int) (r : List Int) (w : World) (hr0 : Kd.C (Kd.int .i64) w A0 l0.length l0) (hc0 : l0.length ≤ c0) (h : sets_Of.f l0 = some r) :
  Calls Try.prog 85 #[.slice A0 l0.length c0] w fun e w' => ∃ v0_ : Value, e = .returned (v0_) ∧ Kd.R (Kd.int .i64) 3 w' w.heap.size (fun _ => True) v0_ r ∧ Below w.heap.size w w' := by
 unfold sets_Of.f at h
 by_cases hl : l0.length < 17592186044416
 ·rw [if_pos hl] at h
  obtain rfl := Option.some.inj h
  clear h
  have h1 := Aside0.mk (clone_C A0 l0.length c0 l0 w hr0 (by omega))
  clear hr0 hc0
  go_enter Try.func85, Try.ntmps85
  go_wp2_with fail
  refine h1.out.mono ?_
  rintro e w1 ⟨v1, rfl, ho1, hB1⟩
  have h2 := Aside0.mk (sort_own _ v1 l0 w1 ho1 (by omega))
  have H1 := Aside0.mk hB1
  have O1 := Aside0.mk ho1
  clear ho1 hB1
  go_wp2_with fail
  refine h2.out.mono ?_
  rintro e w2 ⟨rfl, ho2, hg2⟩
  have hlm : (l0.mergeSort fun x y => decide (x ≤ y)).length = l0.length := List.length_mergeSort l0
  have h3 := Aside0.mk (compact_own _ v1 (l0.mergeSort fun x y => decide (x ≤ y)) w2 (by rw [hlm]; exact ho2))
  have H2 := Aside0.mk hg2
  clear ho2 hg2 hlm
  go_wp2_with fail
  refine h3.out.mono ?_
  rintro e w3 ⟨v3, rfl, ho3, hg3, _⟩
  have O3 := Aside0.mk ho3
  have H3 := Aside0.mk hg3
  clear ho3 hg3
  go_wp2_with fail
  go_ret
  have hb : ∀ k, v1.ownBlock = some k → w.heap.size ≤ k := own_base O1.out
  exact ⟨_, rfl, by rw [← compact_sort]; exact R_of_owns O3.out, (H1.out.grown H2.out H1.out.size hb).grown H3.out (Nat.le_trans H1.out.size H2.out.size) hb⟩
 ·rw [if_neg hl] at h
  cases h
end Go.Proofs.Ytfnophaiamkmpaa.Print
