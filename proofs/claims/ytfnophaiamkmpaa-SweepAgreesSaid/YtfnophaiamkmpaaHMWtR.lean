import Derived.Test.YtfnophaiamkmpaaM6
import Derived.Test.YtfnophaiamkmpaaM11
import Derived.Test.YtfnophaiamkmpaaHKRead5
namespace Go.Proofs.Ytfnophaiamkmpaa.Print
open Go.RowKit Go.Proofs.YtfnophaiamkmpaaW.PrintWords Go.Proofs.YtfnophaiamkmpaaW.PrintLast Go.Proofs.YtfnophaiamkmpaaW.PrintMore
set_option linter.unusedVariables false
set_option linter.unusedSimpArgs false
structure WInv (W0 w : World) (n e : Nat) (arcs : List S58) (S : HSt) (k : Nat) (b6 b7 : Bool) (g6 : Array Value) (x21 x28 x29 x6 x7 : Value) : Prop where
 bel : Below W0.heap.size W0 w
 l6 : ∀ j, x6 = .pointer (some ⟨j, 0, none⟩) → j < w.heap.size
 l7 : ∀ j, x7 = .pointer (some ⟨j, 0, none⟩) → j < w.heap.size
 hG : 1 ≤ k → ∃ A c, x21 = .agg #[.int .i64 (n : Int), .slice A arcs.length c] ∧ Kd.R k58 58 w W0.heap.size (fun j => x6 ≠ .pointer (some ⟨j, 0, none⟩) ∧ x7 ≠ .pointer (some ⟨j, 0, none⟩)) (.slice A arcs.length c) arcs
 hE : 2 ≤ k → ∃ b off, x28 = .pointer (some ⟨b, off, none⟩) ∧ w.cell? ⟨b, off, none⟩ = some (.int .i64 (rd_T58 S.edges (e : Int)).f0) ∧ w.cell? ⟨b, off + 1, none⟩ = some (.int .i64 (rd_T58 S.edges (e : Int)).f1) ∧ x6 ≠ .pointer (some ⟨b, 0, none⟩)
 hX : 3 ≤ k → x29 = .agg #[.int .i64 (rd_T58 S.edges (e : Int)).f0, .int .i64 (rd_T58 S.edges (e : Int)).f1]
 h6 : b6 = true → ∃ B, x6 = .pointer (some ⟨B, 0, none⟩) ∧ w.heap[B]? = some (.cells g6 24 (0, 0)) ∧ W0.heap.size ≤ B
 h7 : b7 = true → ∃ B, x7 = .pointer (some ⟨B, 0, none⟩) ∧ w.heap[B]? = some (.cells #[.int .i64 0, .int .i64 0] 58 (0, 0)) ∧ W0.heap.size ≤ B
section
variable {W0 w w1 : World} {n e : Nat} {arcs : List S58} {S : HSt} {k : Nat} {b6 b7 : Bool} {g6 : Array Value} {x21 x28 x29 x6 x7 : Value}
theorem WInv.move (h : WInv W0 w n e arcs S k b6 b7 g6 x21 x28 x29 x6 x7) (hb : Below w.heap.size w w1) : WInv W0 w1 n e arcs S k b6 b7 g6 x21 x28 x29 x6 x7 := by
 refine ⟨below_then h.bel h.bel.size hb, fun j hj => Nat.lt_of_lt_of_le (h.l6 j hj) hb.size, fun j hj => Nat.lt_of_lt_of_le (h.l7 j hj) hb.size, fun hk => ?_, fun hk => ?_, h.hX, fun hk => ?_, fun hk => ?_⟩
 ·obtain ⟨A, c, h1, h2⟩ := h.hG hk
  exact ⟨A, c, h1, Kd.R_below h2 hb⟩
 ·obtain ⟨b, off, h1, h2, h3, h4⟩ := h.hE hk
  exact ⟨b, off, h1, pw_cell_below hb h2, pw_cell_below hb h3, h4⟩
 ·obtain ⟨B, h1, h2, h3⟩ := h.h6 hk
  exact ⟨B, h1, (hb.block B (hblk_lt h2)).trans h2, h3⟩
 ·obtain ⟨B, h1, h2, h3⟩ := h.h7 hk
  exact ⟨B, h1, (hb.block B (hblk_lt h2)).trans h2, h3⟩
theorem WInv.putG (h : WInv W0 w n e arcs S 0 b6 b7 g6 x21 x28 x29 x6 x7) (hb : Below w.heap.size w w1) {v : Value} (hr : Kd.R k58 58 w1 w.heap.size (fun _ => True) v arcs) : WInv W0 w1 n e arcs S 1 b6 b7 g6 (.agg #[.int .i64 (n : Int), v]) x28 x29 x6 x7 := by
 have h1 := h.move hb
 obtain ⟨A, c, hv, hc, hC⟩ := Kd.R_reads hr
 refine ⟨h1.bel, h1.l6, h1.l7, fun _ => ⟨A, c, by rw [hv], ?_⟩, fun hk => absurd hk (by decide), fun hk => absurd hk (by decide), h1.h6, h1.h7⟩
 rw [← hv]
 refine Kd.R_lower (Kd.R_reok rfl hr (fun j hj => ⟨fun e6 => ?_, fun e7 => ?_⟩)) h.bel.size
 ·have := Kd.R_base hr j hj
  have := h.l6 j e6
  omega
 ·have := Kd.R_base hr j hj
  have := h.l7 j e7
  omega
theorem WInv.putE (h : WInv W0 w n e arcs S 1 b6 b7 g6 x21 x28 x29 x6 x7) (hb : Below w.heap.size w w1) {b off : Nat} (hw : w.heap.size ≤ b) (h0 : w1.cell? ⟨b, off, none⟩ = some (.int .i64 (rd_T58 S.edges (e : Int)).f0)) (h2 : w1.cell? ⟨b, off + 1, none⟩ = some (.int .i64 (rd_T58 S.edges (e : Int)).f1)) :
  WInv W0 w1 n e arcs S 2 b6 b7 g6 x21 (.pointer (some ⟨b, off, none⟩)) x29 x6 x7 := by
 have h1 := h.move hb
 exact ⟨h1.bel, h1.l6, h1.l7, fun _ => h1.hG (by decide), fun _ => ⟨b, off, rfl, h0, h2, fun e6 => by have := h.l6 b e6; omega⟩, fun hk => absurd hk (by decide), h1.h6, h1.h7⟩
theorem WInv.putX (h : WInv W0 w n e arcs S 2 b6 b7 g6 x21 x28 x29 x6 x7) : WInv W0 w n e arcs S 3 b6 b7 g6 x21 x28 (.agg #[.int .i64 (rd_T58 S.edges (e : Int)).f0, .int .i64 (rd_T58 S.edges (e : Int)).f1]) x6 x7 :=
 ⟨h.bel, h.l6, h.l7, fun _ => h.hG (by decide), fun _ => h.hE (by decide), fun _ => rfl, h.h6, h.h7⟩
theorem ptr_inj {a b : Nat} (h : Value.pointer (some ⟨a, 0, none⟩) = Value.pointer (some ⟨b, 0, none⟩)) : a = b := by
 injection h with h
 injection h with h
 injection h
theorem WInv.put6 (h : WInv W0 w n e arcs S k false b7 g6 x21 x28 x29 x6 x7) : WInv W0 (w.alloc (.cells #[.int .i64 0, .slice none 0 0] 24 (0, 0))) n e arcs S k true b7 #[.int .i64 0, .slice none 0 0] x21 x28 x29 (.pointer (some ⟨w.heap.size, 0, none⟩)) x7 := by
 have hb : Below w.heap.size w (w.alloc (.cells #[.int .i64 0, .slice none 0 0] 24 (0, 0))) := (Below.refl _ _).alloc (Nat.le_refl _) _
 have h1 := h.move hb
 refine ⟨h1.bel, fun j hj => ?_, h1.l7, fun hk => ?_, fun hk => ?_, h1.hX, fun _ => ⟨_, rfl, heap_alloc_new w _, h.bel.size⟩, h1.h7⟩
 ·rw [← ptr_inj hj]
  exact hblk_lt (heap_alloc_new w _)
 ·obtain ⟨A, c, e1, hr⟩ := h.hG hk
  refine ⟨A, c, e1, Kd.R_below (Kd.R_reok rfl hr (fun j hj => ⟨fun e6 => ?_, (hr.1 j hj).2⟩)) hb⟩
  have := Kd.R_lt hr j hj
  have := ptr_inj e6
  omega
 ·obtain ⟨b, off, e1, c1, c2, _⟩ := h1.hE hk
  obtain ⟨b', off', e1', c1', _⟩ := h.hE hk
  rw [e1'] at e1
  injection e1 with e1; injection e1 with e1; injection e1 with e1 e2
  subst e1
  refine ⟨b', off, by rw [e1', e2], c1, c2, fun e6 => ?_⟩
  have := World.block_lt_of_cell? w _ c1'
  have := ptr_inj e6
  simp only at *
  omega
theorem WInv.put7 (h : WInv W0 w n e arcs S k b6 false g6 x21 x28 x29 x6 x7) : WInv W0 (w.alloc (.cells #[.int .i64 0, .int .i64 0] 58 (0, 0))) n e arcs S k b6 true g6 x21 x28 x29 x6 (.pointer (some ⟨w.heap.size, 0, none⟩)) := by
 have hb : Below w.heap.size w (w.alloc (.cells #[.int .i64 0, .int .i64 0] 58 (0, 0))) := (Below.refl _ _).alloc (Nat.le_refl _) _
 have h1 := h.move hb
 refine ⟨h1.bel, h1.l6, fun j hj => ?_, fun hk => ?_, h1.hE, h1.hX, h1.h6, fun _ => ⟨_, rfl, heap_alloc_new w _, h.bel.size⟩⟩
 ·rw [← ptr_inj hj]
  exact hblk_lt (heap_alloc_new w _)
 ·obtain ⟨A, c, e1, hr⟩ := h.hG hk
  refine ⟨A, c, e1, Kd.R_below (Kd.R_reok rfl hr (fun j hj => ⟨(hr.1 j hj).1, fun e7 => ?_⟩)) hb⟩
  have := Kd.R_lt hr j hj
  have := ptr_inj e7
  omega
theorem far_cell {W : World} {p a : Addr} (h : a.block ≠ p.block) (u : Value) : (W.setCell p u).cell? a = W.cell? a := by
 unfold World.cell?
 rw [Below.heap_setCell W p u a.block h]
theorem WInv.st6 {B : Nat} {c0 c1 : Value} {gv : Value} (h : WInv W0 w n e arcs S k true true #[c0, c1] x21 x28 x29 (.pointer (some ⟨B, 0, none⟩)) x7) : WInv W0 ((w.setCell ⟨B, 0, none⟩ (.int .i64 (n : Int))).setCell ⟨B, 1, none⟩ gv) n e arcs S k true true #[.int .i64 (n : Int), gv] x21 x28 x29 (.pointer (some ⟨B, 0, none⟩)) x7 := by
 obtain ⟨B', e6, hB, hlo⟩ := h.h6 rfl
 have := ptr_inj e6
 subst this
 refine ⟨hput (hput h.bel _ _ hlo) _ _ hlo, fun j hj => ?_, fun j hj => ?_, fun hk => ?_, fun hk => ?_, h.hX, fun _ => ⟨_, rfl, by simp [World.setCell, Array.getElem?_modify, hB], hlo⟩, fun hk => ?_⟩
 ·rw [setCell_size, setCell_size]; exact h.l6 j hj
 ·rw [setCell_size, setCell_size]; exact h.l7 j hj
 ·obtain ⟨A, c, e1, hr⟩ := h.hG hk
  exact ⟨A, c, e1, Kd.R_far (p := ⟨B, 1, none⟩) (Kd.R_far (p := ⟨B, 0, none⟩) hr (fun j hj e => hj.1 (by rw [show j = B from e])) _) (fun j hj e => hj.1 (by rw [show j = B from e])) _⟩
 ·obtain ⟨b, off, e1, c1, c2, hne⟩ := h.hE hk
  have hbB : b ≠ B := fun e => hne (by rw [e])
  exact ⟨b, off, e1, by rw [far_cell (by exact hbB), far_cell (by exact hbB)]; exact c1, by rw [far_cell (by exact hbB), far_cell (by exact hbB)]; exact c2, hne⟩
 ·obtain ⟨C, e7, hC, hlC⟩ := h.h7 hk
  have hBC : B ≠ C := fun e => by
   subst e
   rw [hB] at hC
   simp at hC
  exact ⟨C, e7, by simp [World.setCell, Array.getElem?_modify, hBC, hC], hlC⟩
end
abbrev wS (q p : Nat) (w' : World) : Prop := w'.cell? ⟨q, 0, none⟩ = some (.pointer (some ⟨p, 0, none⟩))
def wF (q p e : Nat) (x21 x26 x28 x29 x6 x7 : Value) : Act := { tmps := #[.pointer (some ⟨q, 0, none⟩), .int .i64 (e : Int), undef, undef, .int .i64 0, .int .i64 0, x6, x7, undef, undef, undef, undef, undef, undef, undef, undef, undef, .pointer (some ⟨q, 0, none⟩), .pointer (some ⟨q, 0, none⟩), .pointer (some ⟨q, 0, none⟩), .pointer (some ⟨p, 0, none⟩), x21, .pointer (some ⟨q, 0, none⟩), .pointer (some ⟨q, 0, none⟩), .pointer (some ⟨q, 0, none⟩), .pointer (some ⟨p, 0, none⟩), x26, .int .i64 (e : Int), x28, x29, undef, undef, undef, undef, undef, undef, undef, undef, undef, undef, undef, undef, undef, undef, undef, undef, undef, undef, undef, undef, undef, undef, undef, undef, undef, undef, undef, undef, undef, undef, undef, undef, undef, undef, undef, undef, undef, undef, undef, undef, undef, undef, undef, undef, undef, undef, undef, undef, undef, undef, undef, undef, undef, undef, undef, undef, undef, undef, undef, undef, undef, undef, undef, undef, undef, undef, undef, undef, undef, undef, undef, undef, undef, undef, undef, undef, undef, undef, undef, undef, undef, undef, undef, undef, undef, undef, undef, undef, undef, undef, undef, undef, undef, undef, undef, undef, undef, undef, undef, undef, undef, undef, undef, undef, undef, undef, undef, undef, undef, undef, undef, undef, undef, undef, undef, undef, undef, undef, undef, undef, undef, undef], defers := [] }
def WFin (Q : Exit → Act → World → Prop) (W0 : World) (q p n e : Nat) (arcs : List S58) (S : HSt) : Prop :=
 ∀ (w : World) (A : Option Addr) (c B C : Nat) (x21 x26 x28 x29 : Value), Below W0.heap.size W0 w → w.heap[B]? = some (.cells #[.int .i64 (n : Int), .slice A arcs.length c] 24 (0, 0)) → w.heap[C]? = some (.cells #[.int .i64 (rd_T58 S.edges (e : Int)).f0, .int .i64 (rd_T58 S.edges (e : Int)).f1] 58 (0, 0)) →
  Kd.R k58 58 w W0.heap.size (fun _ => True) (.slice A arcs.length c) arcs → W0.heap.size ≤ B → W0.heap.size ≤ C → B ≠ C → Q .normal (wF q p e x21 x26 x28 x29 (.pointer (some ⟨B, 0, none⟩)) (.pointer (some ⟨C, 0, none⟩))) w
section
variable {Q : Exit → Act → World → Prop} {W0 : World} {q p n e : Nat} {arcs : List S58} {L R : List Int} {S : HSt}
variable (hq : wS q p W0) (hh : HierR W0 p n arcs L R S) (hal : arcs.length ≤ 1000000) (hel : S.edges.length ≤ 1000000) (he : e < S.edges.length) (hfin : WFin Q W0 q p n e arcs S) (hQ : ∀ (c : List PanicEntry) (a : Act) (w : World) (d : Option Tmp) (v : Value), Q (.panic c) (a.put d v) w → Q (.panic c) a w)
theorem WInv.cell {w : World} {k : Nat} {b6 b7 : Bool} {g6 : Array Value} {x21 x28 x29 x6 x7 : Value} (hq : wS q p W0) (h : WInv W0 w n e arcs S k b6 b7 g6 x21 x28 x29 x6 x7) : wS q p w := (h.bel.cell (World.block_lt_of_cell? W0 _ hq)).trans hq
include hq hh hal hel he hfin hQ in
set_option maxHeartbeats 1600000 in
set_option maxRecDepth 100000 in
theorem wst_3111 {w : World} {x26 x28 x29 x7 : Value} {A : Option Addr} {c B : Nat} (h : WInv W0 w n e arcs S 3 true true #[.int .i64 (n : Int), .slice A arcs.length c] (.agg #[.int .i64 (n : Int), .slice A arcs.length c]) x28 x29 (.pointer (some ⟨B, 0, none⟩)) x7) : wpAnyLast Try.prog .any (regOps (codeL (codeR (Try.f69.body.getD .skip)))) Q (wS q p) [16] 1 (bits 17 65535) (wF q p e (.agg #[.int .i64 (n : Int), .slice A arcs.length c]) x26 x28 x29 (.pointer (some ⟨B, 0, none⟩)) x7) w := by
 simp only [Try.f69, Option.getD_some, codeR, codeL, regOps, wF]
 have _ := hq; have _ := hh; have _ := hal; have _ := hel; have _ := he; have _ := hQ
 obtain ⟨B', e6, hB, hlo⟩ := h.h6 rfl
 have hBB := ptr_inj e6
 subst hBB
 obtain ⟨C, e7, hC, hlC⟩ := h.h7 rfl
 obtain ⟨A', c', e21, hr⟩ := h.hG (by decide)
 have e29 := h.hX (by decide)
 subst e7 e29
 injection e21 with e21
 simp only [Array.mk.injEq, List.cons.injEq, Value.slice.injEq, true_and, and_true] at e21
 obtain ⟨rfl, rfl⟩ := e21
 have hBC : B ≠ C := fun ee => by subst ee; rw [hB] at hC; simp at hC
 have hf0 : w.frozen? ⟨C, 0, none⟩ = false := blk_frozen hC 0
 have hf1 : w.frozen? ⟨C, 1, none⟩ = false := blk_frozen hC 1
 have hk0 := (blk_cell hC 0).trans rfl
 have hk1 := (blk_cell hC 1).trans rfl
 refine l_ 16 (fun K hK => ?_)
 refine skip_ (w1 := ?_) (by rfl) rfl ?_ ?_
 rotate_left; (·go_simp; rfl)
 refine hK.out _ _ ?_
 refine d_ ?_
 unfold WFin at hfin
 refine hfin _ A c B C _ _ _ _ (hput (hput h.bel _ _ hlC) _ _ hlC) (by simp [World.setCell, Array.getElem?_modify, hB, Ne.symm hBC]) (by simp [World.setCell, Array.getElem?_modify, hC]) ?_ hlo hlC hBC
 exact Kd.R_mono (Kd.R_far (p := ⟨C, 1, none⟩) (Kd.R_far (p := ⟨C, 0, none⟩) hr (fun j hj ee => hj.2 (by rw [show j = C from ee])) _) (fun j hj ee => hj.2 (by rw [show j = C from ee])) _) (fun _ _ => trivial)
include hq hh hal hel he hfin hQ in
set_option maxHeartbeats 1600000 in
set_option maxRecDepth 100000 in
theorem wst_3110 {w : World} {x21 x26 x28 x29 x6 x7 : Value} (h : WInv W0 w n e arcs S 3 true true #[.int .i64 0, .slice none 0 0] x21 x28 x29 x6 x7) : wpAnyLast Try.prog .any (regOps (codeL (codeR (Try.f69.body.getD .skip)))) Q (wS q p) [16] 2 (bits 17 32767) (wF q p e x21 x26 x28 x29 x6 x7) w := by
 simp only [Try.f69, Option.getD_some, codeR, codeL, regOps, wF]
 have _ := hq; have _ := hh; have _ := hal; have _ := hel; have _ := he; have _ := hQ
 obtain ⟨B, e6, hB, hlo⟩ := h.h6 rfl
 obtain ⟨A, c, e21, hr⟩ := h.hG (by decide)
 subst e6 e21
 have hf0 : w.frozen? ⟨B, 0, none⟩ = false := blk_frozen hB 0
 have hf1 : w.frozen? ⟨B, 1, none⟩ = false := blk_frozen hB 1
 have hk0 := (blk_cell hB 0).trans rfl
 have hk1 := (blk_cell hB 1).trans rfl
 have h' := h.st6 (gv := .slice A arcs.length c)
 refine ready_ (rs := [15]) (by kernel_rfl) (by decide) ?_
 refine more_ (i := 15) (N := none) (bits 17 65535) rfl rfl (by kernel_rfl) (by decide) (fun K hK => ?_) ?_; rotate_left
 exact AllReadyL.nil
 ·refine skip_ (w1 := ?_) (by rfl) rfl ?_ ?_
  rotate_left; (·go_simp; rfl)
  refine hK.out _ _ (h'.cell hq) (fun _ => ?_)
  exact wst_3111 hq hh hal hel he hfin hQ h'
include hq hh hal hel he hfin hQ in
set_option maxHeartbeats 1600000 in
set_option maxRecDepth 100000 in
theorem wst_2111 {w : World} {x26 x28 x29 x7 : Value} {A : Option Addr} {c B : Nat} (h : WInv W0 w n e arcs S 2 true true #[.int .i64 (n : Int), .slice A arcs.length c] (.agg #[.int .i64 (n : Int), .slice A arcs.length c]) x28 x29 (.pointer (some ⟨B, 0, none⟩)) x7) : wpAnyLast Try.prog .any (regOps (codeL (codeR (Try.f69.body.getD .skip)))) Q (wS q p) [16] 2 (bits 17 61439) (wF q p e (.agg #[.int .i64 (n : Int), .slice A arcs.length c]) x26 x28 x29 (.pointer (some ⟨B, 0, none⟩)) x7) w := by
 simp only [Try.f69, Option.getD_some, codeR, codeL, regOps, wF]
 have _ := hq; have _ := hh; have _ := hal; have _ := hel; have _ := he; have _ := hQ
 refine ready_ (rs := [12]) (by kernel_rfl) (by decide) ?_
 refine m_ 12 29 (fun K hK => ?_) ?_; rotate_left
 exact AllReadyL.nil
 ·obtain ⟨eb, eo, e28, hx0, hx1, _⟩ := h.hE (by decide)
  subst e28
  have h' := h.putX
  refine value_ (w1 := ?_) (v := ?_) (by rfl) rfl ?_ ?_; rotate_left 2; (·go_simp; constructor; (·rfl); (·rfl))
  refine hK.out _ _ (h'.cell hq) (fun _ => ?_)
  refine n_ 29 ?_
  exact wst_3111 hq hh hal hel he hfin hQ h'
include hq hh hal hel he hfin hQ in
set_option maxHeartbeats 1600000 in
set_option maxRecDepth 100000 in
theorem wst_2110 {w : World} {x21 x26 x28 x29 x6 x7 : Value} (h : WInv W0 w n e arcs S 2 true true #[.int .i64 0, .slice none 0 0] x21 x28 x29 x6 x7) : wpAnyLast Try.prog .any (regOps (codeL (codeR (Try.f69.body.getD .skip)))) Q (wS q p) [16] 3 (bits 17 28671) (wF q p e x21 x26 x28 x29 x6 x7) w := by
 simp only [Try.f69, Option.getD_some, codeR, codeL, regOps, wF]
 have _ := hq; have _ := hh; have _ := hal; have _ := hel; have _ := he; have _ := hQ
 obtain ⟨B, e6, hB, hlo⟩ := h.h6 rfl
 obtain ⟨A, c, e21, hr⟩ := h.hG (by decide)
 subst e6 e21
 have hf0 : w.frozen? ⟨B, 0, none⟩ = false := blk_frozen hB 0
 have hf1 : w.frozen? ⟨B, 1, none⟩ = false := blk_frozen hB 1
 have hk0 := (blk_cell hB 0).trans rfl
 have hk1 := (blk_cell hB 1).trans rfl
 have h' := h.st6 (gv := .slice A arcs.length c)
 refine ready_ (rs := [12, 15]) (by kernel_rfl) (by decide) ?_
 refine m_ 12 29 (fun K hK => ?_) ?_; rotate_left
 refine more_ (i := 15) (N := none) (bits 17 61439) rfl rfl (by kernel_rfl) (by decide) (fun K hK => ?_) ?_; rotate_left
 exact AllReadyL.nil
 ·obtain ⟨eb, eo, e28, hx0, hx1, _⟩ := h.hE (by decide)
  subst e28
  have h' := h.putX
  refine value_ (w1 := ?_) (v := ?_) (by rfl) rfl ?_ ?_; rotate_left 2; (·go_simp; constructor; (·rfl); (·rfl))
  refine hK.out _ _ (h'.cell hq) (fun _ => ?_)
  refine n_ 29 ?_
  exact wst_3110 hq hh hal hel he hfin hQ h'
 ·refine skip_ (w1 := ?_) (by rfl) rfl ?_ ?_
  rotate_left; (·go_simp; rfl)
  refine hK.out _ _ (h'.cell hq) (fun _ => ?_)
  exact wst_2111 hq hh hal hel he hfin hQ h'
include hq hh hal hel he hfin hQ in
set_option maxHeartbeats 1600000 in
set_option maxRecDepth 100000 in
theorem wst_3010 {w : World} {x21 x26 x28 x29 x6 x7 : Value} {g6 : Array Value} (h : WInv W0 w n e arcs S 3 false true g6 x21 x28 x29 x6 x7) : wpAnyLast Try.prog .any (regOps (codeL (codeR (Try.f69.body.getD .skip)))) Q (wS q p) [16] 3 (bits 17 24575) (wF q p e x21 x26 x28 x29 x6 x7) w := by
 simp only [Try.f69, Option.getD_some, codeR, codeL, regOps, wF]
 have _ := hq; have _ := hh; have _ := hal; have _ := hel; have _ := he; have _ := hQ
 refine ready_ (rs := [13]) (by kernel_rfl) (by decide) ?_
 refine m_ 13 6 (fun K hK => ?_) ?_; rotate_left
 exact AllReadyL.nil
 ·refine value_ (w1 := ?_) (v := ?_) (by rfl) rfl ?_ ?_; rotate_left 2; (·go_simp; constructor; (·rfl); (·rfl))
  have h' := h.put6
  refine hK.out _ _ (h'.cell hq) (fun _ => ?_)
  refine n_ 6 ?_
  exact wst_3110 hq hh hal hel he hfin hQ h'
include hq hh hal hel he hfin hQ in
set_option maxHeartbeats 1600000 in
set_option maxRecDepth 100000 in
theorem wst_3100 {w : World} {x21 x26 x28 x29 x6 x7 : Value} (h : WInv W0 w n e arcs S 3 true false #[.int .i64 0, .slice none 0 0] x21 x28 x29 x6 x7) : wpAnyLast Try.prog .any (regOps (codeL (codeR (Try.f69.body.getD .skip)))) Q (wS q p) [16] 3 (bits 17 16383) (wF q p e x21 x26 x28 x29 x6 x7) w := by
 simp only [Try.f69, Option.getD_some, codeR, codeL, regOps, wF]
 have _ := hq; have _ := hh; have _ := hal; have _ := hel; have _ := he; have _ := hQ
 refine ready_ (rs := [14]) (by kernel_rfl) (by decide) ?_
 refine m_ 14 7 (fun K hK => ?_) ?_; rotate_left
 exact AllReadyL.nil
 ·refine value_ (w1 := ?_) (v := ?_) (by rfl) rfl ?_ ?_; rotate_left 2; (·go_simp; constructor; (·rfl); (·rfl))
  have h' := h.put7
  refine hK.out _ _ (h'.cell hq) (fun _ => ?_)
  refine n_ 7 ?_
  exact wst_3110 hq hh hal hel he hfin hQ h'
include hq hh hal hel he hfin hQ in
set_option maxHeartbeats 1600000 in
set_option maxRecDepth 100000 in
theorem wst_1110 {w : World} {x21 x26 x28 x29 x6 x7 : Value} (h : WInv W0 w n e arcs S 1 true true #[.int .i64 0, .slice none 0 0] x21 x28 x29 x6 x7) : wpAnyLast Try.prog .any (regOps (codeL (codeR (Try.f69.body.getD .skip)))) Q (wS q p) [16] 5 (bits 17 26111) (wF q p e x21 x26 x28 x29 x6 x7) w := by
 simp only [Try.f69, Option.getD_some, codeR, codeL, regOps, wF]
 have _ := hq; have _ := hh; have _ := hal; have _ := hel; have _ := he; have _ := hQ
 refine ready_ (rs := [9]) (by kernel_rfl) (by decide) ?_
 refine m_ 9 26 (fun K hK => ?_) ?_; rotate_left
 exact AllReadyL.nil
 ·refine goes_ Try.func28 (by kernel_rfl) rfl #[.pointer (some ⟨p, 0, none⟩)] (by rfl) rfl rfl byL ?_
  refine (Hier_Edges.calls (hh.below h.bel) (by omega)).mono ?_
  rintro ev w1 ⟨v, rfl, hr, hb⟩
  refine ⟨_, rfl, ?_⟩
  obtain ⟨Ae, ce, rfl, hce, hCE⟩ := Kd.R_reads hr
  obtain ⟨ae, hA2, hx0, hx1⟩ := at_T58 hCE (e : Int) (by omega) (by omega)
  obtain ⟨ae2, hA3, hz0, hz3⟩ := at_T58 hCE 0 (by omega) (by omega)
  obtain rfl : ae2 = ae := Option.some.inj (hA3.symm.trans hA2)
  have hsp := spot_of_cell (ad := ae2) (by exact hz0)
  obtain ⟨eb, eo, es⟩ := ae2
  injection hsp with hz1 hz2 hes
  clear hz1 hz2
  subst hes
  simp only [Addr.add_lit, Int.toNat_natCast] at hx0 hx1
  subst hA2
  have hbk := Kd.R_base hr eb rfl
  have h' := h.putE hb hbk hx0 hx1
  clear hr hCE
  refine hK.out _ _ (h'.cell hq) (fun _ => ?_)
  refine n_ 26 ?_
  have H' := Aside0.mk h'
  have HFI := Aside0.mk hfin
  have HHH := Aside0.mk hh
  have HQ2 := Aside0.mk hQ
  have hi0 : (0 : Int) ≤ (e : Int) := by omega
  have hi1 : (e : Int) < (S.edges.length : Int) := by omega
  clear hK K h' h hx0 hx1 hbk hb hz0 hz3 hA3 hfin hh hQ
  refine p_ 11 28 ?_ (hQ := fun c a w h => HQ2.out c a w _ _ h)
  exact wst_2110 hq HHH.out hal hel he HFI.out HQ2.out H'.out
include hq hh hal hel he hfin hQ in
set_option maxHeartbeats 1600000 in
set_option maxRecDepth 100000 in
theorem wst_2010 {w : World} {x21 x26 x28 x29 x6 x7 : Value} {g6 : Array Value} (h : WInv W0 w n e arcs S 2 false true g6 x21 x28 x29 x6 x7) : wpAnyLast Try.prog .any (regOps (codeL (codeR (Try.f69.body.getD .skip)))) Q (wS q p) [16] 4 (bits 17 20479) (wF q p e x21 x26 x28 x29 x6 x7) w := by
 simp only [Try.f69, Option.getD_some, codeR, codeL, regOps, wF]
 have _ := hq; have _ := hh; have _ := hal; have _ := hel; have _ := he; have _ := hQ
 refine ready_ (rs := [12, 13]) (by kernel_rfl) (by decide) ?_
 refine m_ 12 29 (fun K hK => ?_) ?_; rotate_left
 refine m_ 13 6 (fun K hK => ?_) ?_; rotate_left
 exact AllReadyL.nil
 ·obtain ⟨eb, eo, e28, hx0, hx1, _⟩ := h.hE (by decide)
  subst e28
  have h' := h.putX
  refine value_ (w1 := ?_) (v := ?_) (by rfl) rfl ?_ ?_; rotate_left 2; (·go_simp; constructor; (·rfl); (·rfl))
  refine hK.out _ _ (h'.cell hq) (fun _ => ?_)
  refine n_ 29 ?_
  exact wst_3010 hq hh hal hel he hfin hQ h'
 ·refine value_ (w1 := ?_) (v := ?_) (by rfl) rfl ?_ ?_; rotate_left 2; (·go_simp; constructor; (·rfl); (·rfl))
  have h' := h.put6
  refine hK.out _ _ (h'.cell hq) (fun _ => ?_)
  refine n_ 6 ?_
  exact wst_2110 hq hh hal hel he hfin hQ h'
include hq hh hal hel he hfin hQ in
set_option maxHeartbeats 1600000 in
set_option maxRecDepth 100000 in
theorem wst_2100 {w : World} {x21 x26 x28 x29 x6 x7 : Value} (h : WInv W0 w n e arcs S 2 true false #[.int .i64 0, .slice none 0 0] x21 x28 x29 x6 x7) : wpAnyLast Try.prog .any (regOps (codeL (codeR (Try.f69.body.getD .skip)))) Q (wS q p) [16] 4 (bits 17 12287) (wF q p e x21 x26 x28 x29 x6 x7) w := by
 simp only [Try.f69, Option.getD_some, codeR, codeL, regOps, wF]
 have _ := hq; have _ := hh; have _ := hal; have _ := hel; have _ := he; have _ := hQ
 refine ready_ (rs := [12, 14]) (by kernel_rfl) (by decide) ?_
 refine m_ 12 29 (fun K hK => ?_) ?_; rotate_left
 refine m_ 14 7 (fun K hK => ?_) ?_; rotate_left
 exact AllReadyL.nil
 ·obtain ⟨eb, eo, e28, hx0, hx1, _⟩ := h.hE (by decide)
  subst e28
  have h' := h.putX
  refine value_ (w1 := ?_) (v := ?_) (by rfl) rfl ?_ ?_; rotate_left 2; (·go_simp; constructor; (·rfl); (·rfl))
  refine hK.out _ _ (h'.cell hq) (fun _ => ?_)
  refine n_ 29 ?_
  exact wst_3100 hq hh hal hel he hfin hQ h'
 ·refine value_ (w1 := ?_) (v := ?_) (by rfl) rfl ?_ ?_; rotate_left 2; (·go_simp; constructor; (·rfl); (·rfl))
  have h' := h.put7
  refine hK.out _ _ (h'.cell hq) (fun _ => ?_)
  refine n_ 7 ?_
  exact wst_2110 hq hh hal hel he hfin hQ h'
include hq hh hal hel he hfin hQ in
set_option maxHeartbeats 1600000 in
set_option maxRecDepth 100000 in
theorem wst_3000 {w : World} {x21 x26 x28 x29 x6 x7 : Value} {g6 : Array Value} (h : WInv W0 w n e arcs S 3 false false g6 x21 x28 x29 x6 x7) : wpAnyLast Try.prog .any (regOps (codeL (codeR (Try.f69.body.getD .skip)))) Q (wS q p) [16] 4 (bits 17 8191) (wF q p e x21 x26 x28 x29 x6 x7) w := by
 simp only [Try.f69, Option.getD_some, codeR, codeL, regOps, wF]
 have _ := hq; have _ := hh; have _ := hal; have _ := hel; have _ := he; have _ := hQ
 refine ready_ (rs := [13, 14]) (by kernel_rfl) (by decide) ?_
 refine m_ 13 6 (fun K hK => ?_) ?_; rotate_left
 refine m_ 14 7 (fun K hK => ?_) ?_; rotate_left
 exact AllReadyL.nil
 ·refine value_ (w1 := ?_) (v := ?_) (by rfl) rfl ?_ ?_; rotate_left 2; (·go_simp; constructor; (·rfl); (·rfl))
  have h' := h.put6
  refine hK.out _ _ (h'.cell hq) (fun _ => ?_)
  refine n_ 6 ?_
  exact wst_3100 hq hh hal hel he hfin hQ h'
 ·refine value_ (w1 := ?_) (v := ?_) (by rfl) rfl ?_ ?_; rotate_left 2; (·go_simp; constructor; (·rfl); (·rfl))
  have h' := h.put7
  refine hK.out _ _ (h'.cell hq) (fun _ => ?_)
  refine n_ 7 ?_
  exact wst_3010 hq hh hal hel he hfin hQ h'
include hq hh hal hel he hfin hQ in
set_option maxHeartbeats 1600000 in
set_option maxRecDepth 100000 in
theorem wst_0110 {w : World} {x21 x26 x28 x29 x6 x7 : Value} (h : WInv W0 w n e arcs S 0 true true #[.int .i64 0, .slice none 0 0] x21 x28 x29 x6 x7) : wpAnyLast Try.prog .any (regOps (codeL (codeR (Try.f69.body.getD .skip)))) Q (wS q p) [16] 6 (bits 17 26095) (wF q p e x21 x26 x28 x29 x6 x7) w := by
 simp only [Try.f69, Option.getD_some, codeR, codeL, regOps, wF]
 have _ := hq; have _ := hh; have _ := hal; have _ := hel; have _ := he; have _ := hQ
 refine ready_ (rs := [4]) (by kernel_rfl) (by decide) ?_
 refine m_ 4 21 (fun K hK => ?_) ?_; rotate_left
 exact AllReadyL.nil
 ·refine goes_ Try.func66 (by kernel_rfl) rfl #[.pointer (some ⟨p, 0, none⟩)] (by rfl) rfl rfl byL ?_
  refine (Hier_Graph.calls (hh.below h.bel) (by omega)).mono ?_
  rintro ev w1 ⟨v, rfl, hr, hb⟩
  refine ⟨_, rfl, ?_⟩
  have h' := h.putG hb hr
  refine hK.out _ _ (h'.cell hq) (fun _ => ?_)
  refine n_ 21 ?_
  exact wst_1110 hq hh hal hel he hfin hQ h'
include hq hh hal hel he hfin hQ in
set_option maxHeartbeats 1600000 in
set_option maxRecDepth 100000 in
theorem wst_1010 {w : World} {x21 x26 x28 x29 x6 x7 : Value} {g6 : Array Value} (h : WInv W0 w n e arcs S 1 false true g6 x21 x28 x29 x6 x7) : wpAnyLast Try.prog .any (regOps (codeL (codeR (Try.f69.body.getD .skip)))) Q (wS q p) [16] 6 (bits 17 17919) (wF q p e x21 x26 x28 x29 x6 x7) w := by
 simp only [Try.f69, Option.getD_some, codeR, codeL, regOps, wF]
 have _ := hq; have _ := hh; have _ := hal; have _ := hel; have _ := he; have _ := hQ
 refine ready_ (rs := [9, 13]) (by kernel_rfl) (by decide) ?_
 refine m_ 9 26 (fun K hK => ?_) ?_; rotate_left
 refine m_ 13 6 (fun K hK => ?_) ?_; rotate_left
 exact AllReadyL.nil
 ·refine goes_ Try.func28 (by kernel_rfl) rfl #[.pointer (some ⟨p, 0, none⟩)] (by rfl) rfl rfl byL ?_
  refine (Hier_Edges.calls (hh.below h.bel) (by omega)).mono ?_
  rintro ev w1 ⟨v, rfl, hr, hb⟩
  refine ⟨_, rfl, ?_⟩
  obtain ⟨Ae, ce, rfl, hce, hCE⟩ := Kd.R_reads hr
  obtain ⟨ae, hA2, hx0, hx1⟩ := at_T58 hCE (e : Int) (by omega) (by omega)
  obtain ⟨ae2, hA3, hz0, hz3⟩ := at_T58 hCE 0 (by omega) (by omega)
  obtain rfl : ae2 = ae := Option.some.inj (hA3.symm.trans hA2)
  have hsp := spot_of_cell (ad := ae2) (by exact hz0)
  obtain ⟨eb, eo, es⟩ := ae2
  injection hsp with hz1 hz2 hes
  clear hz1 hz2
  subst hes
  simp only [Addr.add_lit, Int.toNat_natCast] at hx0 hx1
  subst hA2
  have hbk := Kd.R_base hr eb rfl
  have h' := h.putE hb hbk hx0 hx1
  clear hr hCE
  refine hK.out _ _ (h'.cell hq) (fun _ => ?_)
  refine n_ 26 ?_
  have H' := Aside0.mk h'
  have HFI := Aside0.mk hfin
  have HHH := Aside0.mk hh
  have HQ2 := Aside0.mk hQ
  have hi0 : (0 : Int) ≤ (e : Int) := by omega
  have hi1 : (e : Int) < (S.edges.length : Int) := by omega
  clear hK K h' h hx0 hx1 hbk hb hz0 hz3 hA3 hfin hh hQ
  refine p_ 11 28 ?_ (hQ := fun c a w h => HQ2.out c a w _ _ h)
  exact wst_2010 hq HHH.out hal hel he HFI.out HQ2.out H'.out
 ·refine value_ (w1 := ?_) (v := ?_) (by rfl) rfl ?_ ?_; rotate_left 2; (·go_simp; constructor; (·rfl); (·rfl))
  have h' := h.put6
  refine hK.out _ _ (h'.cell hq) (fun _ => ?_)
  refine n_ 6 ?_
  exact wst_1110 hq hh hal hel he hfin hQ h'
include hq hh hal hel he hfin hQ in
set_option maxHeartbeats 1600000 in
set_option maxRecDepth 100000 in
theorem wst_1100 {w : World} {x21 x26 x28 x29 x6 x7 : Value} (h : WInv W0 w n e arcs S 1 true false #[.int .i64 0, .slice none 0 0] x21 x28 x29 x6 x7) : wpAnyLast Try.prog .any (regOps (codeL (codeR (Try.f69.body.getD .skip)))) Q (wS q p) [16] 6 (bits 17 9727) (wF q p e x21 x26 x28 x29 x6 x7) w := by
 simp only [Try.f69, Option.getD_some, codeR, codeL, regOps, wF]
 have _ := hq; have _ := hh; have _ := hal; have _ := hel; have _ := he; have _ := hQ
 refine ready_ (rs := [9, 14]) (by kernel_rfl) (by decide) ?_
 refine m_ 9 26 (fun K hK => ?_) ?_; rotate_left
 refine m_ 14 7 (fun K hK => ?_) ?_; rotate_left
 exact AllReadyL.nil
 ·refine goes_ Try.func28 (by kernel_rfl) rfl #[.pointer (some ⟨p, 0, none⟩)] (by rfl) rfl rfl byL ?_
  refine (Hier_Edges.calls (hh.below h.bel) (by omega)).mono ?_
  rintro ev w1 ⟨v, rfl, hr, hb⟩
  refine ⟨_, rfl, ?_⟩
  obtain ⟨Ae, ce, rfl, hce, hCE⟩ := Kd.R_reads hr
  obtain ⟨ae, hA2, hx0, hx1⟩ := at_T58 hCE (e : Int) (by omega) (by omega)
  obtain ⟨ae2, hA3, hz0, hz3⟩ := at_T58 hCE 0 (by omega) (by omega)
  obtain rfl : ae2 = ae := Option.some.inj (hA3.symm.trans hA2)
  have hsp := spot_of_cell (ad := ae2) (by exact hz0)
  obtain ⟨eb, eo, es⟩ := ae2
  injection hsp with hz1 hz2 hes
  clear hz1 hz2
  subst hes
  simp only [Addr.add_lit, Int.toNat_natCast] at hx0 hx1
  subst hA2
  have hbk := Kd.R_base hr eb rfl
  have h' := h.putE hb hbk hx0 hx1
  clear hr hCE
  refine hK.out _ _ (h'.cell hq) (fun _ => ?_)
  refine n_ 26 ?_
  have H' := Aside0.mk h'
  have HFI := Aside0.mk hfin
  have HHH := Aside0.mk hh
  have HQ2 := Aside0.mk hQ
  have hi0 : (0 : Int) ≤ (e : Int) := by omega
  have hi1 : (e : Int) < (S.edges.length : Int) := by omega
  clear hK K h' h hx0 hx1 hbk hb hz0 hz3 hA3 hfin hh hQ
  refine p_ 11 28 ?_ (hQ := fun c a w h => HQ2.out c a w _ _ h)
  exact wst_2100 hq HHH.out hal hel he HFI.out HQ2.out H'.out
 ·refine value_ (w1 := ?_) (v := ?_) (by rfl) rfl ?_ ?_; rotate_left 2; (·go_simp; constructor; (·rfl); (·rfl))
  have h' := h.put7
  refine hK.out _ _ (h'.cell hq) (fun _ => ?_)
  refine n_ 7 ?_
  exact wst_1110 hq hh hal hel he hfin hQ h'
include hq hh hal hel he hfin hQ in
set_option maxHeartbeats 1600000 in
set_option maxRecDepth 100000 in
theorem wst_2000 {w : World} {x21 x26 x28 x29 x6 x7 : Value} {g6 : Array Value} (h : WInv W0 w n e arcs S 2 false false g6 x21 x28 x29 x6 x7) : wpAnyLast Try.prog .any (regOps (codeL (codeR (Try.f69.body.getD .skip)))) Q (wS q p) [16] 5 (bits 17 4095) (wF q p e x21 x26 x28 x29 x6 x7) w := by
 simp only [Try.f69, Option.getD_some, codeR, codeL, regOps, wF]
 have _ := hq; have _ := hh; have _ := hal; have _ := hel; have _ := he; have _ := hQ
 refine ready_ (rs := [12, 13, 14]) (by kernel_rfl) (by decide) ?_
 refine m_ 12 29 (fun K hK => ?_) ?_; rotate_left
 refine m_ 13 6 (fun K hK => ?_) ?_; rotate_left
 refine m_ 14 7 (fun K hK => ?_) ?_; rotate_left
 exact AllReadyL.nil
 ·obtain ⟨eb, eo, e28, hx0, hx1, _⟩ := h.hE (by decide)
  subst e28
  have h' := h.putX
  refine value_ (w1 := ?_) (v := ?_) (by rfl) rfl ?_ ?_; rotate_left 2; (·go_simp; constructor; (·rfl); (·rfl))
  refine hK.out _ _ (h'.cell hq) (fun _ => ?_)
  refine n_ 29 ?_
  exact wst_3000 hq hh hal hel he hfin hQ h'
 ·refine value_ (w1 := ?_) (v := ?_) (by rfl) rfl ?_ ?_; rotate_left 2; (·go_simp; constructor; (·rfl); (·rfl))
  have h' := h.put6
  refine hK.out _ _ (h'.cell hq) (fun _ => ?_)
  refine n_ 6 ?_
  exact wst_2100 hq hh hal hel he hfin hQ h'
 ·refine value_ (w1 := ?_) (v := ?_) (by rfl) rfl ?_ ?_; rotate_left 2; (·go_simp; constructor; (·rfl); (·rfl))
  have h' := h.put7
  refine hK.out _ _ (h'.cell hq) (fun _ => ?_)
  refine n_ 7 ?_
  exact wst_2010 hq hh hal hel he hfin hQ h'
include hq hh hal hel he hfin hQ in
set_option maxHeartbeats 1600000 in
set_option maxRecDepth 100000 in
theorem wst_0010 {w : World} {x21 x26 x28 x29 x6 x7 : Value} {g6 : Array Value} (h : WInv W0 w n e arcs S 0 false true g6 x21 x28 x29 x6 x7) : wpAnyLast Try.prog .any (regOps (codeL (codeR (Try.f69.body.getD .skip)))) Q (wS q p) [16] 7 (bits 17 17903) (wF q p e x21 x26 x28 x29 x6 x7) w := by
 simp only [Try.f69, Option.getD_some, codeR, codeL, regOps, wF]
 have _ := hq; have _ := hh; have _ := hal; have _ := hel; have _ := he; have _ := hQ
 refine ready_ (rs := [4, 13]) (by kernel_rfl) (by decide) ?_
 refine m_ 4 21 (fun K hK => ?_) ?_; rotate_left
 refine m_ 13 6 (fun K hK => ?_) ?_; rotate_left
 exact AllReadyL.nil
 ·refine goes_ Try.func66 (by kernel_rfl) rfl #[.pointer (some ⟨p, 0, none⟩)] (by rfl) rfl rfl byL ?_
  refine (Hier_Graph.calls (hh.below h.bel) (by omega)).mono ?_
  rintro ev w1 ⟨v, rfl, hr, hb⟩
  refine ⟨_, rfl, ?_⟩
  have h' := h.putG hb hr
  refine hK.out _ _ (h'.cell hq) (fun _ => ?_)
  refine n_ 21 ?_
  exact wst_1010 hq hh hal hel he hfin hQ h'
 ·refine value_ (w1 := ?_) (v := ?_) (by rfl) rfl ?_ ?_; rotate_left 2; (·go_simp; constructor; (·rfl); (·rfl))
  have h' := h.put6
  refine hK.out _ _ (h'.cell hq) (fun _ => ?_)
  refine n_ 6 ?_
  exact wst_0110 hq hh hal hel he hfin hQ h'
include hq hh hal hel he hfin hQ in
set_option maxHeartbeats 1600000 in
set_option maxRecDepth 100000 in
theorem wst_0100 {w : World} {x21 x26 x28 x29 x6 x7 : Value} (h : WInv W0 w n e arcs S 0 true false #[.int .i64 0, .slice none 0 0] x21 x28 x29 x6 x7) : wpAnyLast Try.prog .any (regOps (codeL (codeR (Try.f69.body.getD .skip)))) Q (wS q p) [16] 7 (bits 17 9711) (wF q p e x21 x26 x28 x29 x6 x7) w := by
 simp only [Try.f69, Option.getD_some, codeR, codeL, regOps, wF]
 have _ := hq; have _ := hh; have _ := hal; have _ := hel; have _ := he; have _ := hQ
 refine ready_ (rs := [4, 14]) (by kernel_rfl) (by decide) ?_
 refine m_ 4 21 (fun K hK => ?_) ?_; rotate_left
 refine m_ 14 7 (fun K hK => ?_) ?_; rotate_left
 exact AllReadyL.nil
 ·refine goes_ Try.func66 (by kernel_rfl) rfl #[.pointer (some ⟨p, 0, none⟩)] (by rfl) rfl rfl byL ?_
  refine (Hier_Graph.calls (hh.below h.bel) (by omega)).mono ?_
  rintro ev w1 ⟨v, rfl, hr, hb⟩
  refine ⟨_, rfl, ?_⟩
  have h' := h.putG hb hr
  refine hK.out _ _ (h'.cell hq) (fun _ => ?_)
  refine n_ 21 ?_
  exact wst_1100 hq hh hal hel he hfin hQ h'
 ·refine value_ (w1 := ?_) (v := ?_) (by rfl) rfl ?_ ?_; rotate_left 2; (·go_simp; constructor; (·rfl); (·rfl))
  have h' := h.put7
  refine hK.out _ _ (h'.cell hq) (fun _ => ?_)
  refine n_ 7 ?_
  exact wst_0110 hq hh hal hel he hfin hQ h'
include hq hh hal hel he hfin hQ in
set_option maxHeartbeats 1600000 in
set_option maxRecDepth 100000 in
theorem wst_1000 {w : World} {x21 x26 x28 x29 x6 x7 : Value} {g6 : Array Value} (h : WInv W0 w n e arcs S 1 false false g6 x21 x28 x29 x6 x7) : wpAnyLast Try.prog .any (regOps (codeL (codeR (Try.f69.body.getD .skip)))) Q (wS q p) [16] 7 (bits 17 1535) (wF q p e x21 x26 x28 x29 x6 x7) w := by
 simp only [Try.f69, Option.getD_some, codeR, codeL, regOps, wF]
 have _ := hq; have _ := hh; have _ := hal; have _ := hel; have _ := he; have _ := hQ
 refine ready_ (rs := [9, 13, 14]) (by kernel_rfl) (by decide) ?_
 refine m_ 9 26 (fun K hK => ?_) ?_; rotate_left
 refine m_ 13 6 (fun K hK => ?_) ?_; rotate_left
 refine m_ 14 7 (fun K hK => ?_) ?_; rotate_left
 exact AllReadyL.nil
 ·refine goes_ Try.func28 (by kernel_rfl) rfl #[.pointer (some ⟨p, 0, none⟩)] (by rfl) rfl rfl byL ?_
  refine (Hier_Edges.calls (hh.below h.bel) (by omega)).mono ?_
  rintro ev w1 ⟨v, rfl, hr, hb⟩
  refine ⟨_, rfl, ?_⟩
  obtain ⟨Ae, ce, rfl, hce, hCE⟩ := Kd.R_reads hr
  obtain ⟨ae, hA2, hx0, hx1⟩ := at_T58 hCE (e : Int) (by omega) (by omega)
  obtain ⟨ae2, hA3, hz0, hz3⟩ := at_T58 hCE 0 (by omega) (by omega)
  obtain rfl : ae2 = ae := Option.some.inj (hA3.symm.trans hA2)
  have hsp := spot_of_cell (ad := ae2) (by exact hz0)
  obtain ⟨eb, eo, es⟩ := ae2
  injection hsp with hz1 hz2 hes
  clear hz1 hz2
  subst hes
  simp only [Addr.add_lit, Int.toNat_natCast] at hx0 hx1
  subst hA2
  have hbk := Kd.R_base hr eb rfl
  have h' := h.putE hb hbk hx0 hx1
  clear hr hCE
  refine hK.out _ _ (h'.cell hq) (fun _ => ?_)
  refine n_ 26 ?_
  have H' := Aside0.mk h'
  have HFI := Aside0.mk hfin
  have HHH := Aside0.mk hh
  have HQ2 := Aside0.mk hQ
  have hi0 : (0 : Int) ≤ (e : Int) := by omega
  have hi1 : (e : Int) < (S.edges.length : Int) := by omega
  clear hK K h' h hx0 hx1 hbk hb hz0 hz3 hA3 hfin hh hQ
  refine p_ 11 28 ?_ (hQ := fun c a w h => HQ2.out c a w _ _ h)
  exact wst_2000 hq HHH.out hal hel he HFI.out HQ2.out H'.out
 ·refine value_ (w1 := ?_) (v := ?_) (by rfl) rfl ?_ ?_; rotate_left 2; (·go_simp; constructor; (·rfl); (·rfl))
  have h' := h.put6
  refine hK.out _ _ (h'.cell hq) (fun _ => ?_)
  refine n_ 6 ?_
  exact wst_1100 hq hh hal hel he hfin hQ h'
 ·refine value_ (w1 := ?_) (v := ?_) (by rfl) rfl ?_ ?_; rotate_left 2; (·go_simp; constructor; (·rfl); (·rfl))
  have h' := h.put7
  refine hK.out _ _ (h'.cell hq) (fun _ => ?_)
  refine n_ 7 ?_
  exact wst_1010 hq hh hal hel he hfin hQ h'
include hq hh hal hel he hfin hQ in
set_option maxHeartbeats 1600000 in
set_option maxRecDepth 100000 in
theorem wst_0000 {w : World} {x21 x26 x28 x29 x6 x7 : Value} {g6 : Array Value} (h : WInv W0 w n e arcs S 0 false false g6 x21 x28 x29 x6 x7) : wpAnyLast Try.prog .any (regOps (codeL (codeR (Try.f69.body.getD .skip)))) Q (wS q p) [16] 8 (bits 17 1519) (wF q p e x21 x26 x28 x29 x6 x7) w := by
 simp only [Try.f69, Option.getD_some, codeR, codeL, regOps, wF]
 have _ := hq; have _ := hh; have _ := hal; have _ := hel; have _ := he; have _ := hQ
 refine ready_ (rs := [4, 13, 14]) (by kernel_rfl) (by decide) ?_
 refine m_ 4 21 (fun K hK => ?_) ?_; rotate_left
 refine m_ 13 6 (fun K hK => ?_) ?_; rotate_left
 refine m_ 14 7 (fun K hK => ?_) ?_; rotate_left
 exact AllReadyL.nil
 ·refine goes_ Try.func66 (by kernel_rfl) rfl #[.pointer (some ⟨p, 0, none⟩)] (by rfl) rfl rfl byL ?_
  refine (Hier_Graph.calls (hh.below h.bel) (by omega)).mono ?_
  rintro ev w1 ⟨v, rfl, hr, hb⟩
  refine ⟨_, rfl, ?_⟩
  have h' := h.putG hb hr
  refine hK.out _ _ (h'.cell hq) (fun _ => ?_)
  refine n_ 21 ?_
  exact wst_1000 hq hh hal hel he hfin hQ h'
 ·refine value_ (w1 := ?_) (v := ?_) (by rfl) rfl ?_ ?_; rotate_left 2; (·go_simp; constructor; (·rfl); (·rfl))
  have h' := h.put6
  refine hK.out _ _ (h'.cell hq) (fun _ => ?_)
  refine n_ 6 ?_
  exact wst_0100 hq hh hal hel he hfin hQ h'
 ·refine value_ (w1 := ?_) (v := ?_) (by rfl) rfl ?_ ?_; rotate_left 2; (·go_simp; constructor; (·rfl); (·rfl))
  have h' := h.put7
  refine hK.out _ _ (h'.cell hq) (fun _ => ?_)
  refine n_ 7 ?_
  exact wst_0010 hq hh hal hel he hfin hQ h'
include hq hh hal hel he hfin hQ in
set_option maxHeartbeats 1600000 in
set_option maxRecDepth 100000 in
theorem weights_region {w : World} (h : Below W0.heap.size W0 w.drew) : (Code.region 1 (regOps (codeL (codeR (Try.f69.body.getD .skip)))) true).wp Try.prog Q { tmps := #[.pointer (some ⟨q, 0, none⟩), .int .i64 (e : Int), undef, undef, .int .i64 0, .int .i64 0, undef, undef, undef, undef, undef, undef, undef, undef, undef, undef, undef, undef, undef, undef, undef, undef, undef, undef, undef, undef, undef, undef, undef, undef, undef, undef, undef, undef, undef, undef, undef, undef, undef, undef, undef, undef, undef, undef, undef, undef, undef, undef, undef, undef, undef, undef, undef, undef, undef, undef, undef, undef, undef, undef, undef, undef, undef, undef, undef, undef, undef, undef, undef, undef, undef, undef, undef, undef, undef, undef, undef, undef, undef, undef, undef, undef, undef, undef, undef, undef, undef, undef, undef, undef, undef, undef, undef, undef, undef, undef, undef, undef, undef, undef, undef, undef, undef, undef, undef, undef, undef, undef, undef, undef, undef, undef, undef, undef, undef, undef, undef, undef, undef, undef, undef, undef, undef, undef, undef, undef, undef, undef, undef, undef, undef, undef, undef, undef, undef, undef, undef, undef, undef, undef, undef, undef, undef, undef, undef, undef, undef, undef, undef, undef, undef, undef], defers := [] } w := by
 simp only [Try.f69, Option.getD_some, codeR, codeL, regOps]
 have hI : WInv W0 w.drew n e arcs S 0 false false #[] undef undef undef undef undef := ⟨h, fun j hj => (by cases hj), fun j hj => (by cases hj), fun hk => absurd hk (by decide), fun hk => absurd hk (by decide), fun hk => absurd hk (by decide), fun hk => (by cases hk), fun hk => (by cases hk)⟩
 refine s_ (wS q p) [16] (hI.cell hq) (fun hHeld => ?_)
 refine p_ 0 17 ?_ (hQ := fun c a w h => hQ c a w _ _ h)
 refine p_ 1 18 ?_ (hQ := fun c a w h => hQ c a w _ _ h)
 refine p_ 2 19 ?_ (hQ := fun c a w h => hQ c a w _ _ h)
 refine t1_ 3 20 hHeld ?_ (hQ := fun c a w h => hQ c a w _ _ h)
 refine p_ 5 22 ?_ (hQ := fun c a w h => hQ c a w _ _ h)
 refine p_ 6 23 ?_ (hQ := fun c a w h => hQ c a w _ _ h)
 refine p_ 7 24 ?_ (hQ := fun c a w h => hQ c a w _ _ h)
 refine t1_ 8 25 hHeld ?_ (hQ := fun c a w h => hQ c a w _ _ h)
 refine p_ 10 27 ?_ (hQ := fun c a w h => hQ c a w _ _ h)
 exact wst_0000 hq hh hal hel he hfin hQ hI
end
end Go.Proofs.Ytfnophaiamkmpaa.Print
