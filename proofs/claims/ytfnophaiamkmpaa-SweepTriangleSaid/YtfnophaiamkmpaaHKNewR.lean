import Derived.Test.YtfnophaiamkmpaaM6
import Derived.Test.YtfnophaiamkmpaaM8
import Derived.Test.YtfnophaiamkmpaaM9
namespace Go.Proofs.Ytfnophaiamkmpaa.Print
open Go.RowKit Go.Proofs.YtfnophaiamkmpaaW.PrintWords Go.Proofs.YtfnophaiamkmpaaW.PrintLast Go.Proofs.YtfnophaiamkmpaaW.PrintMore
set_option linter.unusedVariables false
set_option linter.unusedSimpArgs false
structure NInv (W0 w : World) (base b0 : Nat) (o : Tags) (n : Nat) (gA : Option Addr) (gc : Nat) (lA : Option Addr) (lc : Nat) (arcs : List S58) (L R : List Int) (k : Nat) (bm bu bd : Bool) (x25 x28 x30 x31 x34 x37 : Value) : Prop where
 c0 : w.cell? ⟨b0, 0, none⟩ = some (.int .i64 (n : Int))
 c1 : w.cell? ⟨b0, 1, none⟩ = some (.slice gA arcs.length gc)
 cA : Kd.C k58 w gA arcs.length arcs
 cL : Kd.C (Kd.int .i64) w lA L.length L
 blo : base ≤ w.heap.size
 bel : Below base W0 w
 bw : base ≤ W0.heap.size
 low : ∀ k, k < base → o k = (0, 0)
 hA : 1 ≤ k → Kd.R k58 58 w base (fun j => o j = (9, 0)) x25 arcs
 hL : 2 ≤ k → Kd.R (Kd.int .i64) 3 w base (fun j => o j = (7, 0)) x28 L
 hR : 3 ≤ k → Kd.R (Kd.int .i64) 3 w base (fun j => o j = (8, 0)) x30 R
 hM : bm = true → ∃ mb, x31 = .map (some mb) ∧ MapIs encP (Value.int .i64) w mb [] ∧ o mb = (5, 0) ∧ base ≤ mb
 hU : bu = true → ∃ B, x34 = .slice (some ⟨B, 0, none⟩) n n ∧ w.heap[B]? = some (.cells (nilRows n) 25 (0, 0)) ∧ o B = (2, 0) ∧ base ≤ B
 hD : bd = true → ∃ B, x37 = .slice (some ⟨B, 0, none⟩) n n ∧ w.heap[B]? = some (.cells (nilRows n) 25 (0, 0)) ∧ o B = (3, 0) ∧ base ≤ B
def tagNew (o : Tags) (b : Nat) (t : Nat × Nat) : Tags := fun j => if b ≤ j then t else o j
theorem tagNew_old {o : Tags} {b k : Nat} {t : Nat × Nat} (h : k < b) : tagNew o b t k = o k := if_neg (by omega)
theorem tagNew_new {o : Tags} {b k : Nat} {t : Nat × Nat} (h : b ≤ k) : tagNew o b t k = t := if_pos h
section
variable {W0 w w1 : World} {base b0 : Nat} {o : Tags} {n : Nat} {gA : Option Addr} {gc : Nat} {lA : Option Addr} {lc : Nat} {arcs : List S58} {L R : List Int} {k : Nat} {bm bu bd : Bool} {x25 x28 x30 x31 x34 x37 : Value}
theorem NInv.move (h : NInv W0 w base b0 o n gA gc lA lc arcs L R k bm bu bd x25 x28 x30 x31 x34 x37) (hb : Below w.heap.size w w1) (t : Nat × Nat) : NInv W0 w1 base b0 (tagNew o w.heap.size t) n gA gc lA lc arcs L R k bm bu bd x25 x28 x30 x31 x34 x37 := by
 refine ⟨pw_cell_below hb h.c0, pw_cell_below hb h.c1, Kd.C_below h.cA hb, Kd.C_below h.cL hb, Nat.le_trans h.blo hb.size, below_more h.bel h.bw hb, h.bw, fun j hj => ?_, fun hk => ?_, fun hk => ?_, fun hk => ?_, fun hk => ?_, fun hk => ?_, fun hk => ?_⟩
 ·rw [tagNew_old (by have := h.blo; omega)]
  exact h.low j hj
 ·have h1 := h.hA hk
  exact Kd.R_below (Kd.R_reok rfl h1 (fun j hj => by rw [tagNew_old (Kd.R_lt h1 j hj)]; exact h1.1 j hj)) hb
 ·have h1 := h.hL hk
  exact Kd.R_below (Kd.R_reok rfl h1 (fun j hj => by rw [tagNew_old (Kd.R_lt h1 j hj)]; exact h1.1 j hj)) hb
 ·have h1 := h.hR hk
  exact Kd.R_below (Kd.R_reok rfl h1 (fun j hj => by rw [tagNew_old (Kd.R_lt h1 j hj)]; exact h1.1 j hj)) hb
 ·obtain ⟨mb, e, hm, ht, hl⟩ := h.hM hk
  exact ⟨mb, e, hm.below hb, by rw [tagNew_old hm.lt]; exact ht, hl⟩
 ·obtain ⟨B, e, hm, ht, hl⟩ := h.hU hk
  exact ⟨B, e, (hb.block B (hblk_lt hm)).trans hm, by rw [tagNew_old (hblk_lt hm)]; exact ht, hl⟩
 ·obtain ⟨B, e, hm, ht, hl⟩ := h.hD hk
  exact ⟨B, e, (hb.block B (hblk_lt hm)).trans hm, by rw [tagNew_old (hblk_lt hm)]; exact ht, hl⟩
theorem newR {α : Type} {d : Kd α} {e : Nat} {v : Value} {xs : List α} {t : Nat × Nat} (hE : d.E = []) (h : Kd.R d e w1 w.heap.size (fun _ => True) v xs) (hb : base ≤ w.heap.size) : Kd.R d e w1 base (fun j => tagNew o w.heap.size t j = t) v xs :=
 Kd.R_lower (Kd.R_reok hE h (fun j hj => tagNew_new (Kd.R_base h j hj))) hb
theorem NInv.putA (h : NInv W0 w base b0 o n gA gc lA lc arcs L R 0 bm bu bd x25 x28 x30 x31 x34 x37) (hb : Below w.heap.size w w1) {v : Value} (hr : Kd.R k58 58 w1 w.heap.size (fun _ => True) v arcs) : NInv W0 w1 base b0 (tagNew o w.heap.size (9, 0)) n gA gc lA lc arcs L R 1 bm bu bd v x28 x30 x31 x34 x37 := by
 have h1 := h.move hb (9, 0)
 exact ⟨h1.c0, h1.c1, h1.cA, h1.cL, h1.blo, h1.bel, h1.bw, h1.low, fun _ => newR rfl hr h.blo, fun hk => absurd hk (by decide), fun hk => absurd hk (by decide), h1.hM, h1.hU, h1.hD⟩
theorem NInv.putL (h : NInv W0 w base b0 o n gA gc lA lc arcs L R 1 bm bu bd x25 x28 x30 x31 x34 x37) (hb : Below w.heap.size w w1) {v : Value} (hr : Kd.R (Kd.int .i64) 3 w1 w.heap.size (fun _ => True) v L) : NInv W0 w1 base b0 (tagNew o w.heap.size (7, 0)) n gA gc lA lc arcs L R 2 bm bu bd x25 v x30 x31 x34 x37 := by
 have h1 := h.move hb (7, 0)
 exact ⟨h1.c0, h1.c1, h1.cA, h1.cL, h1.blo, h1.bel, h1.bw, h1.low, fun _ => h1.hA (by decide), fun _ => newR rfl hr h.blo, fun hk => absurd hk (by decide), h1.hM, h1.hU, h1.hD⟩
theorem NInv.putR (h : NInv W0 w base b0 o n gA gc lA lc arcs L R 2 bm bu bd x25 x28 x30 x31 x34 x37) (hb : Below w.heap.size w w1) {v : Value} (hr : Kd.R (Kd.int .i64) 3 w1 w.heap.size (fun _ => True) v R) : NInv W0 w1 base b0 (tagNew o w.heap.size (8, 0)) n gA gc lA lc arcs L R 3 bm bu bd x25 x28 v x31 x34 x37 := by
 have h1 := h.move hb (8, 0)
 exact ⟨h1.c0, h1.c1, h1.cA, h1.cL, h1.blo, h1.bel, h1.bw, h1.low, fun _ => h1.hA (by decide), fun _ => h1.hL (by decide), fun _ => newR rfl hr h.blo, h1.hM, h1.hU, h1.hD⟩
theorem NInv.putM (h : NInv W0 w base b0 o n gA gc lA lc arcs L R k false bu bd x25 x28 x30 x31 x34 x37) : NInv W0 (w.alloc (.map #[] 0)) base b0 (tagNew o w.heap.size (5, 0)) n gA gc lA lc arcs L R k true bu bd x25 x28 x30 (.map (some w.heap.size)) x34 x37 := by
 have h1 := h.move (w1 := w.alloc (.map #[] 0)) ((Below.refl _ _).alloc (Nat.le_refl _) _) (5, 0)
 exact ⟨h1.c0, h1.c1, h1.cA, h1.cL, h1.blo, h1.bel, h1.bw, h1.low, h1.hA, h1.hL, h1.hR, fun _ => ⟨_, rfl, MapIs.made w, tagNew_new (Nat.le_refl _), h.blo⟩, h1.hU, h1.hD⟩
theorem NInv.putU (h : NInv W0 w base b0 o n gA gc lA lc arcs L R k bm false bd x25 x28 x30 x31 x34 x37) : NInv W0 (w.alloc (.cells (nilRows n) 25 (0, 0))) base b0 (tagNew o w.heap.size (2, 0)) n gA gc lA lc arcs L R k bm true bd x25 x28 x30 x31 (.slice (some ⟨w.heap.size, 0, none⟩) n n) x37 := by
 have h1 := h.move (w1 := w.alloc (.cells (nilRows n) 25 (0, 0))) ((Below.refl _ _).alloc (Nat.le_refl _) _) (2, 0)
 exact ⟨h1.c0, h1.c1, h1.cA, h1.cL, h1.blo, h1.bel, h1.bw, h1.low, h1.hA, h1.hL, h1.hR, h1.hM, fun _ => ⟨_, rfl, heap_alloc_new w _, tagNew_new (Nat.le_refl _), h.blo⟩, h1.hD⟩
theorem NInv.putD (h : NInv W0 w base b0 o n gA gc lA lc arcs L R k bm bu false x25 x28 x30 x31 x34 x37) : NInv W0 (w.alloc (.cells (nilRows n) 25 (0, 0))) base b0 (tagNew o w.heap.size (3, 0)) n gA gc lA lc arcs L R k bm bu true x25 x28 x30 x31 x34 (.slice (some ⟨w.heap.size, 0, none⟩) n n) := by
 have h1 := h.move (w1 := w.alloc (.cells (nilRows n) 25 (0, 0))) ((Below.refl _ _).alloc (Nat.le_refl _) _) (3, 0)
 exact ⟨h1.c0, h1.c1, h1.cA, h1.cL, h1.blo, h1.bel, h1.bw, h1.low, h1.hA, h1.hL, h1.hR, h1.hM, h1.hU, fun _ => ⟨_, rfl, heap_alloc_new w _, tagNew_new (Nat.le_refl _), h.blo⟩⟩
end
abbrev nS (b0 n : Nat) (gv : Value) (w' : World) : Prop := w'.cell? ⟨b0, 0, none⟩ = some (.int .i64 (n : Int)) ∧ w'.cell? ⟨b0, 1, none⟩ = some gv
def nF (y : Nat → Value) (b0 n : Nat) (gv lv x25 x26 x28 x30 x31 x34 x37 : Value) : Act := { tmps := #[y 0, lv, .pointer (some ⟨b0, 0, none⟩), y 3, y 4, y 5, y 6, y 7, y 8, y 9, y 10, y 11, y 12, y 13, y 14, y 15, y 16, y 17, y 18, y 19, y 20, .pointer (some ⟨b0, 0, none⟩), .int .i64 (n : Int), .pointer (some ⟨b0, 1, none⟩), gv, x25, x26, lv, x28, lv, x30, x31, .pointer (some ⟨b0, 0, none⟩), .int .i64 (n : Int), x34, .pointer (some ⟨b0, 0, none⟩), .int .i64 (n : Int), x37, undef, undef, undef, undef, undef], defers := [] }
def NFin (Q : Exit → Act → World → Prop) (W0 : World) (y : Nat → Value) (base b0 n : Nat) (gA : Option Addr) (gc : Nat) (lA : Option Addr) (lc : Nat) (arcs : List S58) (L R : List Int) (gv lv : Value) : Prop :=
 ∀ (w : World) (o : Tags) (v25 v26 v28 v30 v31 v34 v37 : Value), v26 = .agg #[.int .i64 (n : Int), v25] → NInv W0 w base b0 o n gA gc lA lc arcs L R 3 true true true v25 v28 v30 v31 v34 v37 → Q .normal { tmps := #[y 0, lv, .pointer (some ⟨b0, 0, none⟩), y 3, y 4, y 5, y 6, y 7, .pointer (some ⟨w.heap.size, 0, none⟩), y 9, y 10, y 11, y 12, y 13, y 14, y 15, y 16, y 17, y 18, y 19, y 20, .pointer (some ⟨b0, 0, none⟩), .int .i64 (n : Int), .pointer (some ⟨b0, 1, none⟩), gv, v25, v26, lv, v28, lv, v30, v31, .pointer (some ⟨b0, 0, none⟩), .int .i64 (n : Int), v34, .pointer (some ⟨b0, 0, none⟩), .int .i64 (n : Int), v37, .agg #[.int .i64 (n : Int), v25, v28, v30, .slice none 0 0, v31, v34, v37], .pointer (some ⟨w.heap.size, 0, none⟩), undef, undef, undef], defers := [] } (w.alloc (.cells #[.int .i64 (n : Int), v25, v28, v30, .slice none 0 0, v31, v34, v37] 108 (0, 0)))
abbrev NFn (Q : Exit → Act → World → Prop) (W0 : World) (y : Nat → Value) (base b0 n : Nat) (gA : Option Addr) (gc : Nat) (lA : Option Addr) (lc : Nat) (arcs : List S58) (L R : List Int) : Prop := NFin Q W0 y base b0 n gA gc lA lc arcs L R (.slice gA arcs.length gc) (.slice lA L.length lc)
abbrev NW (Q : Exit → Act → World → Prop) (y : Nat → Value) (b0 n : Nat) (gA : Option Addr) (gc : Nat) (lA : Option Addr) (lc : Nat) (arcs : List S58) (L : List Int) (f m : Nat) (x25 x26 x28 x30 x31 x34 x37 : Value) (w : World) : Prop :=
 wpAnyLast Try.prog .any (regOps (codeL (codeR (codeR (codeR (Try.f26.body.getD .skip)))))) Q (nS b0 n (.slice gA arcs.length gc)) [] f (bits 20 m) (nF y b0 n (.slice gA arcs.length gc) (.slice lA L.length lc) x25 x26 x28 x30 x31 x34 x37) w
section
variable {Q : Exit → Act → World → Prop} {W0 : World} {base b0 n : Nat} {gA : Option Addr} {gc : Nat} {lA : Option Addr} {lc : Nat} {arcs : List S58} {L R : List Int} {kr : Nat} {y : Nat → Value}
variable (hn : n ≤ 20000) (hal : arcs.length ≤ 1000000) (hll : L.length ≤ 1000000) (hlc : L.length ≤ lc) (hkr : order_Ranks.f kr L = some R) (hQ : ∀ (c : List PanicEntry) (a : Act) (w : World) (d : Option Tmp) (v : Value), Q (.panic c) (a.put d v) w → Q (.panic c) a w)
include hn hal hll hlc hkr hQ in
set_option maxHeartbeats 1600000 in
set_option maxRecDepth 100000 in
theorem nst_3111 (hfin : NFn Q W0 y base b0 n gA gc lA lc arcs L R) {w : World} {o : Tags} {x25 x26 x28 x30 x31 x34 x37 : Value} (he : x26 = .agg #[.int .i64 (n : Int), x25]) (h : NInv W0 w base b0 o n gA gc lA lc arcs L R 3 true true true x25 x28 x30 x31 x34 x37) : NW Q y b0 n gA gc lA lc arcs L 3 131071 x25 x26 x28 x30 x31 x34 x37 w := by
 simp only [NW, Try.f26, Option.getD_some, codeR, codeL, regOps, nF]
 have _ := hn; have _ := hal; have _ := hll; have _ := hlc; have _ := hkr; have _ := hQ
 obtain ⟨mb, rfl, _⟩ := h.hM rfl
 obtain ⟨Bu, rfl, _⟩ := h.hU rfl
 obtain ⟨Bd, rfl, _⟩ := h.hD rfl
 subst he
 obtain ⟨A9, c9, e9⟩ := Kd.R_slice (h.hA (by decide)); subst e9
 obtain ⟨A7, c7, e7⟩ := Kd.R_slice (h.hL (by decide)); subst e7
 obtain ⟨A8, c8, e8⟩ := Kd.R_slice (h.hR (by decide)); subst e8
 refine p_ 17 38 ?_ (hQ := fun c a w h => hQ c a w _ _ h)
 refine o_ 18 39 (fun K hK => ?_)
 refine value_ (w1 := ?_) (v := ?_) (by rfl) rfl ?_ ?_; rotate_left 2; (·go_simp; constructor; (·rfl); (·rfl))
 refine hK.out _ _ ⟨pw_cell_below ((Below.refl _ _).alloc (Nat.le_refl _) _) h.c0, pw_cell_below ((Below.refl _ _).alloc (Nat.le_refl _) _) h.c1⟩ (fun _ => ?_)
 refine n_ 39 ?_
 refine p_ 19 8 ?_ (hQ := fun c a w h => hQ c a w _ _ h)
 refine d_ ?_
 unfold NFn NFin at hfin
 exact hfin _ _ _ _ _ _ _ _ _ rfl h
include hn hal hll hlc hkr hQ in
set_option maxHeartbeats 1600000 in
set_option maxRecDepth 100000 in
theorem nst_2111 (hfin : NFn Q W0 y base b0 n gA gc lA lc arcs L R) {w : World} {o : Tags} {x25 x26 x28 x30 x31 x34 x37 : Value} (he : x26 = .agg #[.int .i64 (n : Int), x25]) (h : NInv W0 w base b0 o n gA gc lA lc arcs L R 2 true true true x25 x28 x30 x31 x34 x37) : NW Q y b0 n gA gc lA lc arcs L 4 130559 x25 x26 x28 x30 x31 x34 x37 w := by
 simp only [NW, Try.f26, Option.getD_some, codeR, codeL, regOps, nF]
 refine ready_ (rs := [9]) (by kernel_rfl) (by decide) ?_
 refine m_ 9 30 (fun K hK => ?_) ?_; rotate_left
 exact AllReadyL.nil
 ·refine goes_ Try.func58 (by kernel_rfl) rfl #[.slice lA L.length lc] (by rfl) rfl rfl byL ?_
  refine (order_Ranks.calls kr lA lc L R _ h.cL hlc hkr).mono ?_
  rintro e w1 ⟨v, rfl, hr, hb⟩
  refine ⟨_, rfl, ?_⟩
  have h' := h.putR hb hr
  refine hK.out _ _ ⟨h'.c0, h'.c1⟩ (fun _ => ?_)
  refine n_ 30 ?_
  exact nst_3111 hn hal hll hlc hkr hQ hfin he h'
include hn hal hll hlc hkr hQ in
set_option maxHeartbeats 1600000 in
set_option maxRecDepth 100000 in
theorem nst_3011 (hfin : NFn Q W0 y base b0 n gA gc lA lc arcs L R) {w : World} {o : Tags} {x25 x26 x28 x30 x31 x34 x37 : Value} (he : x26 = .agg #[.int .i64 (n : Int), x25]) (h : NInv W0 w base b0 o n gA gc lA lc arcs L R 3 false true true x25 x28 x30 x31 x34 x37) : NW Q y b0 n gA gc lA lc arcs L 4 130047 x25 x26 x28 x30 x31 x34 x37 w := by
 simp only [NW, Try.f26, Option.getD_some, codeR, codeL, regOps, nF]
 refine ready_ (rs := [10]) (by kernel_rfl) (by decide) ?_
 refine m_ 10 31 (fun K hK => ?_) ?_; rotate_left
 exact AllReadyL.nil
 ·refine value_ (w1 := ?_) (v := ?_) (by rfl) rfl ?_ ?_; rotate_left 2; (·have hmk := @run_makeMap Try.prog; go_simp; constructor; (·rfl); (·rfl))
  have h' := h.putM
  refine hK.out _ _ ⟨h'.c0, h'.c1⟩ (fun _ => ?_)
  refine n_ 31 ?_
  exact nst_3111 hn hal hll hlc hkr hQ hfin he h'
include hn hal hll hlc hkr hQ in
set_option maxHeartbeats 1600000 in
set_option maxRecDepth 100000 in
theorem nst_3101 (hfin : NFn Q W0 y base b0 n gA gc lA lc arcs L R) {w : World} {o : Tags} {x25 x26 x28 x30 x31 x34 x37 : Value} (he : x26 = .agg #[.int .i64 (n : Int), x25]) (h : NInv W0 w base b0 o n gA gc lA lc arcs L R 3 true false true x25 x28 x30 x31 x34 x37) : NW Q y b0 n gA gc lA lc arcs L 4 122879 x25 x26 x28 x30 x31 x34 x37 w := by
 simp only [NW, Try.f26, Option.getD_some, codeR, codeL, regOps, nF]
 refine ready_ (rs := [13]) (by kernel_rfl) (by decide) ?_
 refine m_ 13 34 (fun K hK => ?_) ?_; rotate_left
 exact AllReadyL.nil
 ·refine value_ (w1 := ?_) (v := ?_) (by rfl) rfl ?_ ?_; rotate_left 2; (·have hmk := run_nilRows n hn; go_simp; constructor; (·rfl); (·rfl))
  have h' := h.putU
  refine hK.out _ _ ⟨h'.c0, h'.c1⟩ (fun _ => ?_)
  refine n_ 34 ?_
  exact nst_3111 hn hal hll hlc hkr hQ hfin he h'
include hn hal hll hlc hkr hQ in
set_option maxHeartbeats 1600000 in
set_option maxRecDepth 100000 in
theorem nst_3110 (hfin : NFn Q W0 y base b0 n gA gc lA lc arcs L R) {w : World} {o : Tags} {x25 x26 x28 x30 x31 x34 x37 : Value} (he : x26 = .agg #[.int .i64 (n : Int), x25]) (h : NInv W0 w base b0 o n gA gc lA lc arcs L R 3 true true false x25 x28 x30 x31 x34 x37) : NW Q y b0 n gA gc lA lc arcs L 4 65535 x25 x26 x28 x30 x31 x34 x37 w := by
 simp only [NW, Try.f26, Option.getD_some, codeR, codeL, regOps, nF]
 refine ready_ (rs := [16]) (by kernel_rfl) (by decide) ?_
 refine m_ 16 37 (fun K hK => ?_) ?_; rotate_left
 exact AllReadyL.nil
 ·refine value_ (w1 := ?_) (v := ?_) (by rfl) rfl ?_ ?_; rotate_left 2; (·have hmk := run_nilRows n hn; go_simp; constructor; (·rfl); (·rfl))
  have h' := h.putD
  refine hK.out _ _ ⟨h'.c0, h'.c1⟩ (fun _ => ?_)
  refine n_ 37 ?_
  exact nst_3111 hn hal hll hlc hkr hQ hfin he h'
include hn hal hll hlc hkr hQ in
set_option maxHeartbeats 1600000 in
set_option maxRecDepth 100000 in
theorem nst_1111 (hfin : NFn Q W0 y base b0 n gA gc lA lc arcs L R) {w : World} {o : Tags} {x25 x26 x28 x30 x31 x34 x37 : Value} (he : x26 = .agg #[.int .i64 (n : Int), x25]) (h : NInv W0 w base b0 o n gA gc lA lc arcs L R 1 true true true x25 x28 x30 x31 x34 x37) : NW Q y b0 n gA gc lA lc arcs L 5 130431 x25 x26 x28 x30 x31 x34 x37 w := by
 simp only [NW, Try.f26, Option.getD_some, codeR, codeL, regOps, nF]
 refine ready_ (rs := [7]) (by kernel_rfl) (by decide) ?_
 refine m_ 7 28 (fun K hK => ?_) ?_; rotate_left
 exact AllReadyL.nil
 ·refine goes_ Try.func57 (by kernel_rfl) rfl #[.slice lA L.length lc] (by rfl) rfl rfl byL ?_
  refine (clone_ints lA lc L _ h.cL (by omega)).mono ?_
  rintro e w1 ⟨v, rfl, hr, hb⟩
  refine ⟨_, rfl, ?_⟩
  have h' := h.putL hb hr
  refine hK.out _ _ ⟨h'.c0, h'.c1⟩ (fun _ => ?_)
  refine n_ 28 ?_
  exact nst_2111 hn hal hll hlc hkr hQ hfin he h'
include hn hal hll hlc hkr hQ in
set_option maxHeartbeats 1600000 in
set_option maxRecDepth 100000 in
theorem nst_2011 (hfin : NFn Q W0 y base b0 n gA gc lA lc arcs L R) {w : World} {o : Tags} {x25 x26 x28 x30 x31 x34 x37 : Value} (he : x26 = .agg #[.int .i64 (n : Int), x25]) (h : NInv W0 w base b0 o n gA gc lA lc arcs L R 2 false true true x25 x28 x30 x31 x34 x37) : NW Q y b0 n gA gc lA lc arcs L 5 129535 x25 x26 x28 x30 x31 x34 x37 w := by
 simp only [NW, Try.f26, Option.getD_some, codeR, codeL, regOps, nF]
 refine ready_ (rs := [9, 10]) (by kernel_rfl) (by decide) ?_
 refine m_ 9 30 (fun K hK => ?_) ?_; rotate_left
 refine m_ 10 31 (fun K hK => ?_) ?_; rotate_left
 exact AllReadyL.nil
 ·refine goes_ Try.func58 (by kernel_rfl) rfl #[.slice lA L.length lc] (by rfl) rfl rfl byL ?_
  refine (order_Ranks.calls kr lA lc L R _ h.cL hlc hkr).mono ?_
  rintro e w1 ⟨v, rfl, hr, hb⟩
  refine ⟨_, rfl, ?_⟩
  have h' := h.putR hb hr
  refine hK.out _ _ ⟨h'.c0, h'.c1⟩ (fun _ => ?_)
  refine n_ 30 ?_
  exact nst_3011 hn hal hll hlc hkr hQ hfin he h'
 ·refine value_ (w1 := ?_) (v := ?_) (by rfl) rfl ?_ ?_; rotate_left 2; (·have hmk := @run_makeMap Try.prog; go_simp; constructor; (·rfl); (·rfl))
  have h' := h.putM
  refine hK.out _ _ ⟨h'.c0, h'.c1⟩ (fun _ => ?_)
  refine n_ 31 ?_
  exact nst_2111 hn hal hll hlc hkr hQ hfin he h'
include hn hal hll hlc hkr hQ in
set_option maxHeartbeats 1600000 in
set_option maxRecDepth 100000 in
theorem nst_2101 (hfin : NFn Q W0 y base b0 n gA gc lA lc arcs L R) {w : World} {o : Tags} {x25 x26 x28 x30 x31 x34 x37 : Value} (he : x26 = .agg #[.int .i64 (n : Int), x25]) (h : NInv W0 w base b0 o n gA gc lA lc arcs L R 2 true false true x25 x28 x30 x31 x34 x37) : NW Q y b0 n gA gc lA lc arcs L 5 122367 x25 x26 x28 x30 x31 x34 x37 w := by
 simp only [NW, Try.f26, Option.getD_some, codeR, codeL, regOps, nF]
 refine ready_ (rs := [9, 13]) (by kernel_rfl) (by decide) ?_
 refine m_ 9 30 (fun K hK => ?_) ?_; rotate_left
 refine m_ 13 34 (fun K hK => ?_) ?_; rotate_left
 exact AllReadyL.nil
 ·refine goes_ Try.func58 (by kernel_rfl) rfl #[.slice lA L.length lc] (by rfl) rfl rfl byL ?_
  refine (order_Ranks.calls kr lA lc L R _ h.cL hlc hkr).mono ?_
  rintro e w1 ⟨v, rfl, hr, hb⟩
  refine ⟨_, rfl, ?_⟩
  have h' := h.putR hb hr
  refine hK.out _ _ ⟨h'.c0, h'.c1⟩ (fun _ => ?_)
  refine n_ 30 ?_
  exact nst_3101 hn hal hll hlc hkr hQ hfin he h'
 ·refine value_ (w1 := ?_) (v := ?_) (by rfl) rfl ?_ ?_; rotate_left 2; (·have hmk := run_nilRows n hn; go_simp; constructor; (·rfl); (·rfl))
  have h' := h.putU
  refine hK.out _ _ ⟨h'.c0, h'.c1⟩ (fun _ => ?_)
  refine n_ 34 ?_
  exact nst_2111 hn hal hll hlc hkr hQ hfin he h'
include hn hal hll hlc hkr hQ in
set_option maxHeartbeats 1600000 in
set_option maxRecDepth 100000 in
theorem nst_2110 (hfin : NFn Q W0 y base b0 n gA gc lA lc arcs L R) {w : World} {o : Tags} {x25 x26 x28 x30 x31 x34 x37 : Value} (he : x26 = .agg #[.int .i64 (n : Int), x25]) (h : NInv W0 w base b0 o n gA gc lA lc arcs L R 2 true true false x25 x28 x30 x31 x34 x37) : NW Q y b0 n gA gc lA lc arcs L 5 65023 x25 x26 x28 x30 x31 x34 x37 w := by
 simp only [NW, Try.f26, Option.getD_some, codeR, codeL, regOps, nF]
 refine ready_ (rs := [9, 16]) (by kernel_rfl) (by decide) ?_
 refine m_ 9 30 (fun K hK => ?_) ?_; rotate_left
 refine m_ 16 37 (fun K hK => ?_) ?_; rotate_left
 exact AllReadyL.nil
 ·refine goes_ Try.func58 (by kernel_rfl) rfl #[.slice lA L.length lc] (by rfl) rfl rfl byL ?_
  refine (order_Ranks.calls kr lA lc L R _ h.cL hlc hkr).mono ?_
  rintro e w1 ⟨v, rfl, hr, hb⟩
  refine ⟨_, rfl, ?_⟩
  have h' := h.putR hb hr
  refine hK.out _ _ ⟨h'.c0, h'.c1⟩ (fun _ => ?_)
  refine n_ 30 ?_
  exact nst_3110 hn hal hll hlc hkr hQ hfin he h'
 ·refine value_ (w1 := ?_) (v := ?_) (by rfl) rfl ?_ ?_; rotate_left 2; (·have hmk := run_nilRows n hn; go_simp; constructor; (·rfl); (·rfl))
  have h' := h.putD
  refine hK.out _ _ ⟨h'.c0, h'.c1⟩ (fun _ => ?_)
  refine n_ 37 ?_
  exact nst_2111 hn hal hll hlc hkr hQ hfin he h'
include hn hal hll hlc hkr hQ in
set_option maxHeartbeats 1600000 in
set_option maxRecDepth 100000 in
theorem nst_3001 (hfin : NFn Q W0 y base b0 n gA gc lA lc arcs L R) {w : World} {o : Tags} {x25 x26 x28 x30 x31 x34 x37 : Value} (he : x26 = .agg #[.int .i64 (n : Int), x25]) (h : NInv W0 w base b0 o n gA gc lA lc arcs L R 3 false false true x25 x28 x30 x31 x34 x37) : NW Q y b0 n gA gc lA lc arcs L 5 121855 x25 x26 x28 x30 x31 x34 x37 w := by
 simp only [NW, Try.f26, Option.getD_some, codeR, codeL, regOps, nF]
 refine ready_ (rs := [10, 13]) (by kernel_rfl) (by decide) ?_
 refine m_ 10 31 (fun K hK => ?_) ?_; rotate_left
 refine m_ 13 34 (fun K hK => ?_) ?_; rotate_left
 exact AllReadyL.nil
 ·refine value_ (w1 := ?_) (v := ?_) (by rfl) rfl ?_ ?_; rotate_left 2; (·have hmk := @run_makeMap Try.prog; go_simp; constructor; (·rfl); (·rfl))
  have h' := h.putM
  refine hK.out _ _ ⟨h'.c0, h'.c1⟩ (fun _ => ?_)
  refine n_ 31 ?_
  exact nst_3101 hn hal hll hlc hkr hQ hfin he h'
 ·refine value_ (w1 := ?_) (v := ?_) (by rfl) rfl ?_ ?_; rotate_left 2; (·have hmk := run_nilRows n hn; go_simp; constructor; (·rfl); (·rfl))
  have h' := h.putU
  refine hK.out _ _ ⟨h'.c0, h'.c1⟩ (fun _ => ?_)
  refine n_ 34 ?_
  exact nst_3011 hn hal hll hlc hkr hQ hfin he h'
include hn hal hll hlc hkr hQ in
set_option maxHeartbeats 1600000 in
set_option maxRecDepth 100000 in
theorem nst_3010 (hfin : NFn Q W0 y base b0 n gA gc lA lc arcs L R) {w : World} {o : Tags} {x25 x26 x28 x30 x31 x34 x37 : Value} (he : x26 = .agg #[.int .i64 (n : Int), x25]) (h : NInv W0 w base b0 o n gA gc lA lc arcs L R 3 false true false x25 x28 x30 x31 x34 x37) : NW Q y b0 n gA gc lA lc arcs L 5 64511 x25 x26 x28 x30 x31 x34 x37 w := by
 simp only [NW, Try.f26, Option.getD_some, codeR, codeL, regOps, nF]
 refine ready_ (rs := [10, 16]) (by kernel_rfl) (by decide) ?_
 refine m_ 10 31 (fun K hK => ?_) ?_; rotate_left
 refine m_ 16 37 (fun K hK => ?_) ?_; rotate_left
 exact AllReadyL.nil
 ·refine value_ (w1 := ?_) (v := ?_) (by rfl) rfl ?_ ?_; rotate_left 2; (·have hmk := @run_makeMap Try.prog; go_simp; constructor; (·rfl); (·rfl))
  have h' := h.putM
  refine hK.out _ _ ⟨h'.c0, h'.c1⟩ (fun _ => ?_)
  refine n_ 31 ?_
  exact nst_3110 hn hal hll hlc hkr hQ hfin he h'
 ·refine value_ (w1 := ?_) (v := ?_) (by rfl) rfl ?_ ?_; rotate_left 2; (·have hmk := run_nilRows n hn; go_simp; constructor; (·rfl); (·rfl))
  have h' := h.putD
  refine hK.out _ _ ⟨h'.c0, h'.c1⟩ (fun _ => ?_)
  refine n_ 37 ?_
  exact nst_3011 hn hal hll hlc hkr hQ hfin he h'
include hn hal hll hlc hkr hQ in
set_option maxHeartbeats 1600000 in
set_option maxRecDepth 100000 in
theorem nst_3100 (hfin : NFn Q W0 y base b0 n gA gc lA lc arcs L R) {w : World} {o : Tags} {x25 x26 x28 x30 x31 x34 x37 : Value} (he : x26 = .agg #[.int .i64 (n : Int), x25]) (h : NInv W0 w base b0 o n gA gc lA lc arcs L R 3 true false false x25 x28 x30 x31 x34 x37) : NW Q y b0 n gA gc lA lc arcs L 5 57343 x25 x26 x28 x30 x31 x34 x37 w := by
 simp only [NW, Try.f26, Option.getD_some, codeR, codeL, regOps, nF]
 refine ready_ (rs := [13, 16]) (by kernel_rfl) (by decide) ?_
 refine m_ 13 34 (fun K hK => ?_) ?_; rotate_left
 refine m_ 16 37 (fun K hK => ?_) ?_; rotate_left
 exact AllReadyL.nil
 ·refine value_ (w1 := ?_) (v := ?_) (by rfl) rfl ?_ ?_; rotate_left 2; (·have hmk := run_nilRows n hn; go_simp; constructor; (·rfl); (·rfl))
  have h' := h.putU
  refine hK.out _ _ ⟨h'.c0, h'.c1⟩ (fun _ => ?_)
  refine n_ 34 ?_
  exact nst_3110 hn hal hll hlc hkr hQ hfin he h'
 ·refine value_ (w1 := ?_) (v := ?_) (by rfl) rfl ?_ ?_; rotate_left 2; (·have hmk := run_nilRows n hn; go_simp; constructor; (·rfl); (·rfl))
  have h' := h.putD
  refine hK.out _ _ ⟨h'.c0, h'.c1⟩ (fun _ => ?_)
  refine n_ 37 ?_
  exact nst_3101 hn hal hll hlc hkr hQ hfin he h'
include hn hal hll hlc hkr hQ in
set_option maxHeartbeats 1600000 in
set_option maxRecDepth 100000 in
theorem nst_0111 (hfin : NFn Q W0 y base b0 n gA gc lA lc arcs L R) {w : World} {o : Tags} {x25 x26 x28 x30 x31 x34 x37 : Value} (h : NInv W0 w base b0 o n gA gc lA lc arcs L R 0 true true true x25 x28 x30 x31 x34 x37) : NW Q y b0 n gA gc lA lc arcs L 7 130383 x25 x26 x28 x30 x31 x34 x37 w := by
 simp only [NW, Try.f26, Option.getD_some, codeR, codeL, regOps, nF]
 refine ready_ (rs := [4]) (by kernel_rfl) (by decide) ?_
 refine m_ 4 25 (fun K hK => ?_) ?_; rotate_left
 exact AllReadyL.nil
 ·refine goes_ Try.func56 (by kernel_rfl) rfl #[.slice gA arcs.length gc] (by rfl) rfl rfl byL ?_
  refine (clone_arcs gA gc arcs _ h.cA (by omega)).mono ?_
  rintro e w1 ⟨v, rfl, hr, hb⟩
  obtain ⟨Av, cv, rfl⟩ := Kd.R_slice hr
  refine ⟨_, rfl, ?_⟩
  have h' := h.putA hb hr
  refine hK.out _ _ ⟨h'.c0, h'.c1⟩ (fun _ => ?_)
  refine n_ 25 ?_
  refine p_ 5 26 ?_ (hQ := fun c a w h => hQ c a w _ _ h)
  exact nst_1111 hn hal hll hlc hkr hQ hfin rfl h'
include hn hal hll hlc hkr hQ in
set_option maxHeartbeats 1600000 in
set_option maxRecDepth 100000 in
theorem nst_1011 (hfin : NFn Q W0 y base b0 n gA gc lA lc arcs L R) {w : World} {o : Tags} {x25 x26 x28 x30 x31 x34 x37 : Value} (he : x26 = .agg #[.int .i64 (n : Int), x25]) (h : NInv W0 w base b0 o n gA gc lA lc arcs L R 1 false true true x25 x28 x30 x31 x34 x37) : NW Q y b0 n gA gc lA lc arcs L 6 129407 x25 x26 x28 x30 x31 x34 x37 w := by
 simp only [NW, Try.f26, Option.getD_some, codeR, codeL, regOps, nF]
 refine ready_ (rs := [7, 10]) (by kernel_rfl) (by decide) ?_
 refine m_ 7 28 (fun K hK => ?_) ?_; rotate_left
 refine m_ 10 31 (fun K hK => ?_) ?_; rotate_left
 exact AllReadyL.nil
 ·refine goes_ Try.func57 (by kernel_rfl) rfl #[.slice lA L.length lc] (by rfl) rfl rfl byL ?_
  refine (clone_ints lA lc L _ h.cL (by omega)).mono ?_
  rintro e w1 ⟨v, rfl, hr, hb⟩
  refine ⟨_, rfl, ?_⟩
  have h' := h.putL hb hr
  refine hK.out _ _ ⟨h'.c0, h'.c1⟩ (fun _ => ?_)
  refine n_ 28 ?_
  exact nst_2011 hn hal hll hlc hkr hQ hfin he h'
 ·refine value_ (w1 := ?_) (v := ?_) (by rfl) rfl ?_ ?_; rotate_left 2; (·have hmk := @run_makeMap Try.prog; go_simp; constructor; (·rfl); (·rfl))
  have h' := h.putM
  refine hK.out _ _ ⟨h'.c0, h'.c1⟩ (fun _ => ?_)
  refine n_ 31 ?_
  exact nst_1111 hn hal hll hlc hkr hQ hfin he h'
include hn hal hll hlc hkr hQ in
set_option maxHeartbeats 1600000 in
set_option maxRecDepth 100000 in
theorem nst_1101 (hfin : NFn Q W0 y base b0 n gA gc lA lc arcs L R) {w : World} {o : Tags} {x25 x26 x28 x30 x31 x34 x37 : Value} (he : x26 = .agg #[.int .i64 (n : Int), x25]) (h : NInv W0 w base b0 o n gA gc lA lc arcs L R 1 true false true x25 x28 x30 x31 x34 x37) : NW Q y b0 n gA gc lA lc arcs L 6 122239 x25 x26 x28 x30 x31 x34 x37 w := by
 simp only [NW, Try.f26, Option.getD_some, codeR, codeL, regOps, nF]
 refine ready_ (rs := [7, 13]) (by kernel_rfl) (by decide) ?_
 refine m_ 7 28 (fun K hK => ?_) ?_; rotate_left
 refine m_ 13 34 (fun K hK => ?_) ?_; rotate_left
 exact AllReadyL.nil
 ·refine goes_ Try.func57 (by kernel_rfl) rfl #[.slice lA L.length lc] (by rfl) rfl rfl byL ?_
  refine (clone_ints lA lc L _ h.cL (by omega)).mono ?_
  rintro e w1 ⟨v, rfl, hr, hb⟩
  refine ⟨_, rfl, ?_⟩
  have h' := h.putL hb hr
  refine hK.out _ _ ⟨h'.c0, h'.c1⟩ (fun _ => ?_)
  refine n_ 28 ?_
  exact nst_2101 hn hal hll hlc hkr hQ hfin he h'
 ·refine value_ (w1 := ?_) (v := ?_) (by rfl) rfl ?_ ?_; rotate_left 2; (·have hmk := run_nilRows n hn; go_simp; constructor; (·rfl); (·rfl))
  have h' := h.putU
  refine hK.out _ _ ⟨h'.c0, h'.c1⟩ (fun _ => ?_)
  refine n_ 34 ?_
  exact nst_1111 hn hal hll hlc hkr hQ hfin he h'
include hn hal hll hlc hkr hQ in
set_option maxHeartbeats 1600000 in
set_option maxRecDepth 100000 in
theorem nst_1110 (hfin : NFn Q W0 y base b0 n gA gc lA lc arcs L R) {w : World} {o : Tags} {x25 x26 x28 x30 x31 x34 x37 : Value} (he : x26 = .agg #[.int .i64 (n : Int), x25]) (h : NInv W0 w base b0 o n gA gc lA lc arcs L R 1 true true false x25 x28 x30 x31 x34 x37) : NW Q y b0 n gA gc lA lc arcs L 6 64895 x25 x26 x28 x30 x31 x34 x37 w := by
 simp only [NW, Try.f26, Option.getD_some, codeR, codeL, regOps, nF]
 refine ready_ (rs := [7, 16]) (by kernel_rfl) (by decide) ?_
 refine m_ 7 28 (fun K hK => ?_) ?_; rotate_left
 refine m_ 16 37 (fun K hK => ?_) ?_; rotate_left
 exact AllReadyL.nil
 ·refine goes_ Try.func57 (by kernel_rfl) rfl #[.slice lA L.length lc] (by rfl) rfl rfl byL ?_
  refine (clone_ints lA lc L _ h.cL (by omega)).mono ?_
  rintro e w1 ⟨v, rfl, hr, hb⟩
  refine ⟨_, rfl, ?_⟩
  have h' := h.putL hb hr
  refine hK.out _ _ ⟨h'.c0, h'.c1⟩ (fun _ => ?_)
  refine n_ 28 ?_
  exact nst_2110 hn hal hll hlc hkr hQ hfin he h'
 ·refine value_ (w1 := ?_) (v := ?_) (by rfl) rfl ?_ ?_; rotate_left 2; (·have hmk := run_nilRows n hn; go_simp; constructor; (·rfl); (·rfl))
  have h' := h.putD
  refine hK.out _ _ ⟨h'.c0, h'.c1⟩ (fun _ => ?_)
  refine n_ 37 ?_
  exact nst_1111 hn hal hll hlc hkr hQ hfin he h'
include hn hal hll hlc hkr hQ in
set_option maxHeartbeats 1600000 in
set_option maxRecDepth 100000 in
theorem nst_2001 (hfin : NFn Q W0 y base b0 n gA gc lA lc arcs L R) {w : World} {o : Tags} {x25 x26 x28 x30 x31 x34 x37 : Value} (he : x26 = .agg #[.int .i64 (n : Int), x25]) (h : NInv W0 w base b0 o n gA gc lA lc arcs L R 2 false false true x25 x28 x30 x31 x34 x37) : NW Q y b0 n gA gc lA lc arcs L 6 121343 x25 x26 x28 x30 x31 x34 x37 w := by
 simp only [NW, Try.f26, Option.getD_some, codeR, codeL, regOps, nF]
 refine ready_ (rs := [9, 10, 13]) (by kernel_rfl) (by decide) ?_
 refine m_ 9 30 (fun K hK => ?_) ?_; rotate_left
 refine m_ 10 31 (fun K hK => ?_) ?_; rotate_left
 refine m_ 13 34 (fun K hK => ?_) ?_; rotate_left
 exact AllReadyL.nil
 ·refine goes_ Try.func58 (by kernel_rfl) rfl #[.slice lA L.length lc] (by rfl) rfl rfl byL ?_
  refine (order_Ranks.calls kr lA lc L R _ h.cL hlc hkr).mono ?_
  rintro e w1 ⟨v, rfl, hr, hb⟩
  refine ⟨_, rfl, ?_⟩
  have h' := h.putR hb hr
  refine hK.out _ _ ⟨h'.c0, h'.c1⟩ (fun _ => ?_)
  refine n_ 30 ?_
  exact nst_3001 hn hal hll hlc hkr hQ hfin he h'
 ·refine value_ (w1 := ?_) (v := ?_) (by rfl) rfl ?_ ?_; rotate_left 2; (·have hmk := @run_makeMap Try.prog; go_simp; constructor; (·rfl); (·rfl))
  have h' := h.putM
  refine hK.out _ _ ⟨h'.c0, h'.c1⟩ (fun _ => ?_)
  refine n_ 31 ?_
  exact nst_2101 hn hal hll hlc hkr hQ hfin he h'
 ·refine value_ (w1 := ?_) (v := ?_) (by rfl) rfl ?_ ?_; rotate_left 2; (·have hmk := run_nilRows n hn; go_simp; constructor; (·rfl); (·rfl))
  have h' := h.putU
  refine hK.out _ _ ⟨h'.c0, h'.c1⟩ (fun _ => ?_)
  refine n_ 34 ?_
  exact nst_2011 hn hal hll hlc hkr hQ hfin he h'
include hn hal hll hlc hkr hQ in
set_option maxHeartbeats 1600000 in
set_option maxRecDepth 100000 in
theorem nst_2010 (hfin : NFn Q W0 y base b0 n gA gc lA lc arcs L R) {w : World} {o : Tags} {x25 x26 x28 x30 x31 x34 x37 : Value} (he : x26 = .agg #[.int .i64 (n : Int), x25]) (h : NInv W0 w base b0 o n gA gc lA lc arcs L R 2 false true false x25 x28 x30 x31 x34 x37) : NW Q y b0 n gA gc lA lc arcs L 6 63999 x25 x26 x28 x30 x31 x34 x37 w := by
 simp only [NW, Try.f26, Option.getD_some, codeR, codeL, regOps, nF]
 refine ready_ (rs := [9, 10, 16]) (by kernel_rfl) (by decide) ?_
 refine m_ 9 30 (fun K hK => ?_) ?_; rotate_left
 refine m_ 10 31 (fun K hK => ?_) ?_; rotate_left
 refine m_ 16 37 (fun K hK => ?_) ?_; rotate_left
 exact AllReadyL.nil
 ·refine goes_ Try.func58 (by kernel_rfl) rfl #[.slice lA L.length lc] (by rfl) rfl rfl byL ?_
  refine (order_Ranks.calls kr lA lc L R _ h.cL hlc hkr).mono ?_
  rintro e w1 ⟨v, rfl, hr, hb⟩
  refine ⟨_, rfl, ?_⟩
  have h' := h.putR hb hr
  refine hK.out _ _ ⟨h'.c0, h'.c1⟩ (fun _ => ?_)
  refine n_ 30 ?_
  exact nst_3010 hn hal hll hlc hkr hQ hfin he h'
 ·refine value_ (w1 := ?_) (v := ?_) (by rfl) rfl ?_ ?_; rotate_left 2; (·have hmk := @run_makeMap Try.prog; go_simp; constructor; (·rfl); (·rfl))
  have h' := h.putM
  refine hK.out _ _ ⟨h'.c0, h'.c1⟩ (fun _ => ?_)
  refine n_ 31 ?_
  exact nst_2110 hn hal hll hlc hkr hQ hfin he h'
 ·refine value_ (w1 := ?_) (v := ?_) (by rfl) rfl ?_ ?_; rotate_left 2; (·have hmk := run_nilRows n hn; go_simp; constructor; (·rfl); (·rfl))
  have h' := h.putD
  refine hK.out _ _ ⟨h'.c0, h'.c1⟩ (fun _ => ?_)
  refine n_ 37 ?_
  exact nst_2011 hn hal hll hlc hkr hQ hfin he h'
include hn hal hll hlc hkr hQ in
set_option maxHeartbeats 1600000 in
set_option maxRecDepth 100000 in
theorem nst_2100 (hfin : NFn Q W0 y base b0 n gA gc lA lc arcs L R) {w : World} {o : Tags} {x25 x26 x28 x30 x31 x34 x37 : Value} (he : x26 = .agg #[.int .i64 (n : Int), x25]) (h : NInv W0 w base b0 o n gA gc lA lc arcs L R 2 true false false x25 x28 x30 x31 x34 x37) : NW Q y b0 n gA gc lA lc arcs L 6 56831 x25 x26 x28 x30 x31 x34 x37 w := by
 simp only [NW, Try.f26, Option.getD_some, codeR, codeL, regOps, nF]
 refine ready_ (rs := [9, 13, 16]) (by kernel_rfl) (by decide) ?_
 refine m_ 9 30 (fun K hK => ?_) ?_; rotate_left
 refine m_ 13 34 (fun K hK => ?_) ?_; rotate_left
 refine m_ 16 37 (fun K hK => ?_) ?_; rotate_left
 exact AllReadyL.nil
 ·refine goes_ Try.func58 (by kernel_rfl) rfl #[.slice lA L.length lc] (by rfl) rfl rfl byL ?_
  refine (order_Ranks.calls kr lA lc L R _ h.cL hlc hkr).mono ?_
  rintro e w1 ⟨v, rfl, hr, hb⟩
  refine ⟨_, rfl, ?_⟩
  have h' := h.putR hb hr
  refine hK.out _ _ ⟨h'.c0, h'.c1⟩ (fun _ => ?_)
  refine n_ 30 ?_
  exact nst_3100 hn hal hll hlc hkr hQ hfin he h'
 ·refine value_ (w1 := ?_) (v := ?_) (by rfl) rfl ?_ ?_; rotate_left 2; (·have hmk := run_nilRows n hn; go_simp; constructor; (·rfl); (·rfl))
  have h' := h.putU
  refine hK.out _ _ ⟨h'.c0, h'.c1⟩ (fun _ => ?_)
  refine n_ 34 ?_
  exact nst_2110 hn hal hll hlc hkr hQ hfin he h'
 ·refine value_ (w1 := ?_) (v := ?_) (by rfl) rfl ?_ ?_; rotate_left 2; (·have hmk := run_nilRows n hn; go_simp; constructor; (·rfl); (·rfl))
  have h' := h.putD
  refine hK.out _ _ ⟨h'.c0, h'.c1⟩ (fun _ => ?_)
  refine n_ 37 ?_
  exact nst_2101 hn hal hll hlc hkr hQ hfin he h'
include hn hal hll hlc hkr hQ in
set_option maxHeartbeats 1600000 in
set_option maxRecDepth 100000 in
theorem nst_3000 (hfin : NFn Q W0 y base b0 n gA gc lA lc arcs L R) {w : World} {o : Tags} {x25 x26 x28 x30 x31 x34 x37 : Value} (he : x26 = .agg #[.int .i64 (n : Int), x25]) (h : NInv W0 w base b0 o n gA gc lA lc arcs L R 3 false false false x25 x28 x30 x31 x34 x37) : NW Q y b0 n gA gc lA lc arcs L 6 56319 x25 x26 x28 x30 x31 x34 x37 w := by
 simp only [NW, Try.f26, Option.getD_some, codeR, codeL, regOps, nF]
 refine ready_ (rs := [10, 13, 16]) (by kernel_rfl) (by decide) ?_
 refine m_ 10 31 (fun K hK => ?_) ?_; rotate_left
 refine m_ 13 34 (fun K hK => ?_) ?_; rotate_left
 refine m_ 16 37 (fun K hK => ?_) ?_; rotate_left
 exact AllReadyL.nil
 ·refine value_ (w1 := ?_) (v := ?_) (by rfl) rfl ?_ ?_; rotate_left 2; (·have hmk := @run_makeMap Try.prog; go_simp; constructor; (·rfl); (·rfl))
  have h' := h.putM
  refine hK.out _ _ ⟨h'.c0, h'.c1⟩ (fun _ => ?_)
  refine n_ 31 ?_
  exact nst_3100 hn hal hll hlc hkr hQ hfin he h'
 ·refine value_ (w1 := ?_) (v := ?_) (by rfl) rfl ?_ ?_; rotate_left 2; (·have hmk := run_nilRows n hn; go_simp; constructor; (·rfl); (·rfl))
  have h' := h.putU
  refine hK.out _ _ ⟨h'.c0, h'.c1⟩ (fun _ => ?_)
  refine n_ 34 ?_
  exact nst_3010 hn hal hll hlc hkr hQ hfin he h'
 ·refine value_ (w1 := ?_) (v := ?_) (by rfl) rfl ?_ ?_; rotate_left 2; (·have hmk := run_nilRows n hn; go_simp; constructor; (·rfl); (·rfl))
  have h' := h.putD
  refine hK.out _ _ ⟨h'.c0, h'.c1⟩ (fun _ => ?_)
  refine n_ 37 ?_
  exact nst_3001 hn hal hll hlc hkr hQ hfin he h'
include hn hal hll hlc hkr hQ in
set_option maxHeartbeats 1600000 in
set_option maxRecDepth 100000 in
theorem nst_0011 (hfin : NFn Q W0 y base b0 n gA gc lA lc arcs L R) {w : World} {o : Tags} {x25 x26 x28 x30 x31 x34 x37 : Value} (h : NInv W0 w base b0 o n gA gc lA lc arcs L R 0 false true true x25 x28 x30 x31 x34 x37) : NW Q y b0 n gA gc lA lc arcs L 8 129359 x25 x26 x28 x30 x31 x34 x37 w := by
 simp only [NW, Try.f26, Option.getD_some, codeR, codeL, regOps, nF]
 refine ready_ (rs := [4, 10]) (by kernel_rfl) (by decide) ?_
 refine m_ 4 25 (fun K hK => ?_) ?_; rotate_left
 refine m_ 10 31 (fun K hK => ?_) ?_; rotate_left
 exact AllReadyL.nil
 ·refine goes_ Try.func56 (by kernel_rfl) rfl #[.slice gA arcs.length gc] (by rfl) rfl rfl byL ?_
  refine (clone_arcs gA gc arcs _ h.cA (by omega)).mono ?_
  rintro e w1 ⟨v, rfl, hr, hb⟩
  obtain ⟨Av, cv, rfl⟩ := Kd.R_slice hr
  refine ⟨_, rfl, ?_⟩
  have h' := h.putA hb hr
  refine hK.out _ _ ⟨h'.c0, h'.c1⟩ (fun _ => ?_)
  refine n_ 25 ?_
  refine p_ 5 26 ?_ (hQ := fun c a w h => hQ c a w _ _ h)
  exact nst_1011 hn hal hll hlc hkr hQ hfin rfl h'
 ·refine value_ (w1 := ?_) (v := ?_) (by rfl) rfl ?_ ?_; rotate_left 2; (·have hmk := @run_makeMap Try.prog; go_simp; constructor; (·rfl); (·rfl))
  have h' := h.putM
  refine hK.out _ _ ⟨h'.c0, h'.c1⟩ (fun _ => ?_)
  refine n_ 31 ?_
  exact nst_0111 hn hal hll hlc hkr hQ hfin h'
include hn hal hll hlc hkr hQ in
set_option maxHeartbeats 1600000 in
set_option maxRecDepth 100000 in
theorem nst_0101 (hfin : NFn Q W0 y base b0 n gA gc lA lc arcs L R) {w : World} {o : Tags} {x25 x26 x28 x30 x31 x34 x37 : Value} (h : NInv W0 w base b0 o n gA gc lA lc arcs L R 0 true false true x25 x28 x30 x31 x34 x37) : NW Q y b0 n gA gc lA lc arcs L 8 122191 x25 x26 x28 x30 x31 x34 x37 w := by
 simp only [NW, Try.f26, Option.getD_some, codeR, codeL, regOps, nF]
 refine ready_ (rs := [4, 13]) (by kernel_rfl) (by decide) ?_
 refine m_ 4 25 (fun K hK => ?_) ?_; rotate_left
 refine m_ 13 34 (fun K hK => ?_) ?_; rotate_left
 exact AllReadyL.nil
 ·refine goes_ Try.func56 (by kernel_rfl) rfl #[.slice gA arcs.length gc] (by rfl) rfl rfl byL ?_
  refine (clone_arcs gA gc arcs _ h.cA (by omega)).mono ?_
  rintro e w1 ⟨v, rfl, hr, hb⟩
  obtain ⟨Av, cv, rfl⟩ := Kd.R_slice hr
  refine ⟨_, rfl, ?_⟩
  have h' := h.putA hb hr
  refine hK.out _ _ ⟨h'.c0, h'.c1⟩ (fun _ => ?_)
  refine n_ 25 ?_
  refine p_ 5 26 ?_ (hQ := fun c a w h => hQ c a w _ _ h)
  exact nst_1101 hn hal hll hlc hkr hQ hfin rfl h'
 ·refine value_ (w1 := ?_) (v := ?_) (by rfl) rfl ?_ ?_; rotate_left 2; (·have hmk := run_nilRows n hn; go_simp; constructor; (·rfl); (·rfl))
  have h' := h.putU
  refine hK.out _ _ ⟨h'.c0, h'.c1⟩ (fun _ => ?_)
  refine n_ 34 ?_
  exact nst_0111 hn hal hll hlc hkr hQ hfin h'
include hn hal hll hlc hkr hQ in
set_option maxHeartbeats 1600000 in
set_option maxRecDepth 100000 in
theorem nst_0110 (hfin : NFn Q W0 y base b0 n gA gc lA lc arcs L R) {w : World} {o : Tags} {x25 x26 x28 x30 x31 x34 x37 : Value} (h : NInv W0 w base b0 o n gA gc lA lc arcs L R 0 true true false x25 x28 x30 x31 x34 x37) : NW Q y b0 n gA gc lA lc arcs L 8 64847 x25 x26 x28 x30 x31 x34 x37 w := by
 simp only [NW, Try.f26, Option.getD_some, codeR, codeL, regOps, nF]
 refine ready_ (rs := [4, 16]) (by kernel_rfl) (by decide) ?_
 refine m_ 4 25 (fun K hK => ?_) ?_; rotate_left
 refine m_ 16 37 (fun K hK => ?_) ?_; rotate_left
 exact AllReadyL.nil
 ·refine goes_ Try.func56 (by kernel_rfl) rfl #[.slice gA arcs.length gc] (by rfl) rfl rfl byL ?_
  refine (clone_arcs gA gc arcs _ h.cA (by omega)).mono ?_
  rintro e w1 ⟨v, rfl, hr, hb⟩
  obtain ⟨Av, cv, rfl⟩ := Kd.R_slice hr
  refine ⟨_, rfl, ?_⟩
  have h' := h.putA hb hr
  refine hK.out _ _ ⟨h'.c0, h'.c1⟩ (fun _ => ?_)
  refine n_ 25 ?_
  refine p_ 5 26 ?_ (hQ := fun c a w h => hQ c a w _ _ h)
  exact nst_1110 hn hal hll hlc hkr hQ hfin rfl h'
 ·refine value_ (w1 := ?_) (v := ?_) (by rfl) rfl ?_ ?_; rotate_left 2; (·have hmk := run_nilRows n hn; go_simp; constructor; (·rfl); (·rfl))
  have h' := h.putD
  refine hK.out _ _ ⟨h'.c0, h'.c1⟩ (fun _ => ?_)
  refine n_ 37 ?_
  exact nst_0111 hn hal hll hlc hkr hQ hfin h'
include hn hal hll hlc hkr hQ in
set_option maxHeartbeats 1600000 in
set_option maxRecDepth 100000 in
theorem nst_1001 (hfin : NFn Q W0 y base b0 n gA gc lA lc arcs L R) {w : World} {o : Tags} {x25 x26 x28 x30 x31 x34 x37 : Value} (he : x26 = .agg #[.int .i64 (n : Int), x25]) (h : NInv W0 w base b0 o n gA gc lA lc arcs L R 1 false false true x25 x28 x30 x31 x34 x37) : NW Q y b0 n gA gc lA lc arcs L 7 121215 x25 x26 x28 x30 x31 x34 x37 w := by
 simp only [NW, Try.f26, Option.getD_some, codeR, codeL, regOps, nF]
 refine ready_ (rs := [7, 10, 13]) (by kernel_rfl) (by decide) ?_
 refine m_ 7 28 (fun K hK => ?_) ?_; rotate_left
 refine m_ 10 31 (fun K hK => ?_) ?_; rotate_left
 refine m_ 13 34 (fun K hK => ?_) ?_; rotate_left
 exact AllReadyL.nil
 ·refine goes_ Try.func57 (by kernel_rfl) rfl #[.slice lA L.length lc] (by rfl) rfl rfl byL ?_
  refine (clone_ints lA lc L _ h.cL (by omega)).mono ?_
  rintro e w1 ⟨v, rfl, hr, hb⟩
  refine ⟨_, rfl, ?_⟩
  have h' := h.putL hb hr
  refine hK.out _ _ ⟨h'.c0, h'.c1⟩ (fun _ => ?_)
  refine n_ 28 ?_
  exact nst_2001 hn hal hll hlc hkr hQ hfin he h'
 ·refine value_ (w1 := ?_) (v := ?_) (by rfl) rfl ?_ ?_; rotate_left 2; (·have hmk := @run_makeMap Try.prog; go_simp; constructor; (·rfl); (·rfl))
  have h' := h.putM
  refine hK.out _ _ ⟨h'.c0, h'.c1⟩ (fun _ => ?_)
  refine n_ 31 ?_
  exact nst_1101 hn hal hll hlc hkr hQ hfin he h'
 ·refine value_ (w1 := ?_) (v := ?_) (by rfl) rfl ?_ ?_; rotate_left 2; (·have hmk := run_nilRows n hn; go_simp; constructor; (·rfl); (·rfl))
  have h' := h.putU
  refine hK.out _ _ ⟨h'.c0, h'.c1⟩ (fun _ => ?_)
  refine n_ 34 ?_
  exact nst_1011 hn hal hll hlc hkr hQ hfin he h'
include hn hal hll hlc hkr hQ in
set_option maxHeartbeats 1600000 in
set_option maxRecDepth 100000 in
theorem nst_1010 (hfin : NFn Q W0 y base b0 n gA gc lA lc arcs L R) {w : World} {o : Tags} {x25 x26 x28 x30 x31 x34 x37 : Value} (he : x26 = .agg #[.int .i64 (n : Int), x25]) (h : NInv W0 w base b0 o n gA gc lA lc arcs L R 1 false true false x25 x28 x30 x31 x34 x37) : NW Q y b0 n gA gc lA lc arcs L 7 63871 x25 x26 x28 x30 x31 x34 x37 w := by
 simp only [NW, Try.f26, Option.getD_some, codeR, codeL, regOps, nF]
 refine ready_ (rs := [7, 10, 16]) (by kernel_rfl) (by decide) ?_
 refine m_ 7 28 (fun K hK => ?_) ?_; rotate_left
 refine m_ 10 31 (fun K hK => ?_) ?_; rotate_left
 refine m_ 16 37 (fun K hK => ?_) ?_; rotate_left
 exact AllReadyL.nil
 ·refine goes_ Try.func57 (by kernel_rfl) rfl #[.slice lA L.length lc] (by rfl) rfl rfl byL ?_
  refine (clone_ints lA lc L _ h.cL (by omega)).mono ?_
  rintro e w1 ⟨v, rfl, hr, hb⟩
  refine ⟨_, rfl, ?_⟩
  have h' := h.putL hb hr
  refine hK.out _ _ ⟨h'.c0, h'.c1⟩ (fun _ => ?_)
  refine n_ 28 ?_
  exact nst_2010 hn hal hll hlc hkr hQ hfin he h'
 ·refine value_ (w1 := ?_) (v := ?_) (by rfl) rfl ?_ ?_; rotate_left 2; (·have hmk := @run_makeMap Try.prog; go_simp; constructor; (·rfl); (·rfl))
  have h' := h.putM
  refine hK.out _ _ ⟨h'.c0, h'.c1⟩ (fun _ => ?_)
  refine n_ 31 ?_
  exact nst_1110 hn hal hll hlc hkr hQ hfin he h'
 ·refine value_ (w1 := ?_) (v := ?_) (by rfl) rfl ?_ ?_; rotate_left 2; (·have hmk := run_nilRows n hn; go_simp; constructor; (·rfl); (·rfl))
  have h' := h.putD
  refine hK.out _ _ ⟨h'.c0, h'.c1⟩ (fun _ => ?_)
  refine n_ 37 ?_
  exact nst_1011 hn hal hll hlc hkr hQ hfin he h'
include hn hal hll hlc hkr hQ in
set_option maxHeartbeats 1600000 in
set_option maxRecDepth 100000 in
theorem nst_1100 (hfin : NFn Q W0 y base b0 n gA gc lA lc arcs L R) {w : World} {o : Tags} {x25 x26 x28 x30 x31 x34 x37 : Value} (he : x26 = .agg #[.int .i64 (n : Int), x25]) (h : NInv W0 w base b0 o n gA gc lA lc arcs L R 1 true false false x25 x28 x30 x31 x34 x37) : NW Q y b0 n gA gc lA lc arcs L 7 56703 x25 x26 x28 x30 x31 x34 x37 w := by
 simp only [NW, Try.f26, Option.getD_some, codeR, codeL, regOps, nF]
 refine ready_ (rs := [7, 13, 16]) (by kernel_rfl) (by decide) ?_
 refine m_ 7 28 (fun K hK => ?_) ?_; rotate_left
 refine m_ 13 34 (fun K hK => ?_) ?_; rotate_left
 refine m_ 16 37 (fun K hK => ?_) ?_; rotate_left
 exact AllReadyL.nil
 ·refine goes_ Try.func57 (by kernel_rfl) rfl #[.slice lA L.length lc] (by rfl) rfl rfl byL ?_
  refine (clone_ints lA lc L _ h.cL (by omega)).mono ?_
  rintro e w1 ⟨v, rfl, hr, hb⟩
  refine ⟨_, rfl, ?_⟩
  have h' := h.putL hb hr
  refine hK.out _ _ ⟨h'.c0, h'.c1⟩ (fun _ => ?_)
  refine n_ 28 ?_
  exact nst_2100 hn hal hll hlc hkr hQ hfin he h'
 ·refine value_ (w1 := ?_) (v := ?_) (by rfl) rfl ?_ ?_; rotate_left 2; (·have hmk := run_nilRows n hn; go_simp; constructor; (·rfl); (·rfl))
  have h' := h.putU
  refine hK.out _ _ ⟨h'.c0, h'.c1⟩ (fun _ => ?_)
  refine n_ 34 ?_
  exact nst_1110 hn hal hll hlc hkr hQ hfin he h'
 ·refine value_ (w1 := ?_) (v := ?_) (by rfl) rfl ?_ ?_; rotate_left 2; (·have hmk := run_nilRows n hn; go_simp; constructor; (·rfl); (·rfl))
  have h' := h.putD
  refine hK.out _ _ ⟨h'.c0, h'.c1⟩ (fun _ => ?_)
  refine n_ 37 ?_
  exact nst_1101 hn hal hll hlc hkr hQ hfin he h'
include hn hal hll hlc hkr hQ in
set_option maxHeartbeats 1600000 in
set_option maxRecDepth 100000 in
theorem nst_2000 (hfin : NFn Q W0 y base b0 n gA gc lA lc arcs L R) {w : World} {o : Tags} {x25 x26 x28 x30 x31 x34 x37 : Value} (he : x26 = .agg #[.int .i64 (n : Int), x25]) (h : NInv W0 w base b0 o n gA gc lA lc arcs L R 2 false false false x25 x28 x30 x31 x34 x37) : NW Q y b0 n gA gc lA lc arcs L 7 55807 x25 x26 x28 x30 x31 x34 x37 w := by
 simp only [NW, Try.f26, Option.getD_some, codeR, codeL, regOps, nF]
 refine ready_ (rs := [9, 10, 13, 16]) (by kernel_rfl) (by decide) ?_
 refine m_ 9 30 (fun K hK => ?_) ?_; rotate_left
 refine m_ 10 31 (fun K hK => ?_) ?_; rotate_left
 refine m_ 13 34 (fun K hK => ?_) ?_; rotate_left
 refine m_ 16 37 (fun K hK => ?_) ?_; rotate_left
 exact AllReadyL.nil
 ·refine goes_ Try.func58 (by kernel_rfl) rfl #[.slice lA L.length lc] (by rfl) rfl rfl byL ?_
  refine (order_Ranks.calls kr lA lc L R _ h.cL hlc hkr).mono ?_
  rintro e w1 ⟨v, rfl, hr, hb⟩
  refine ⟨_, rfl, ?_⟩
  have h' := h.putR hb hr
  refine hK.out _ _ ⟨h'.c0, h'.c1⟩ (fun _ => ?_)
  refine n_ 30 ?_
  exact nst_3000 hn hal hll hlc hkr hQ hfin he h'
 ·refine value_ (w1 := ?_) (v := ?_) (by rfl) rfl ?_ ?_; rotate_left 2; (·have hmk := @run_makeMap Try.prog; go_simp; constructor; (·rfl); (·rfl))
  have h' := h.putM
  refine hK.out _ _ ⟨h'.c0, h'.c1⟩ (fun _ => ?_)
  refine n_ 31 ?_
  exact nst_2100 hn hal hll hlc hkr hQ hfin he h'
 ·refine value_ (w1 := ?_) (v := ?_) (by rfl) rfl ?_ ?_; rotate_left 2; (·have hmk := run_nilRows n hn; go_simp; constructor; (·rfl); (·rfl))
  have h' := h.putU
  refine hK.out _ _ ⟨h'.c0, h'.c1⟩ (fun _ => ?_)
  refine n_ 34 ?_
  exact nst_2010 hn hal hll hlc hkr hQ hfin he h'
 ·refine value_ (w1 := ?_) (v := ?_) (by rfl) rfl ?_ ?_; rotate_left 2; (·have hmk := run_nilRows n hn; go_simp; constructor; (·rfl); (·rfl))
  have h' := h.putD
  refine hK.out _ _ ⟨h'.c0, h'.c1⟩ (fun _ => ?_)
  refine n_ 37 ?_
  exact nst_2001 hn hal hll hlc hkr hQ hfin he h'
include hn hal hll hlc hkr hQ in
set_option maxHeartbeats 1600000 in
set_option maxRecDepth 100000 in
theorem nst_0001 (hfin : NFn Q W0 y base b0 n gA gc lA lc arcs L R) {w : World} {o : Tags} {x25 x26 x28 x30 x31 x34 x37 : Value} (h : NInv W0 w base b0 o n gA gc lA lc arcs L R 0 false false true x25 x28 x30 x31 x34 x37) : NW Q y b0 n gA gc lA lc arcs L 9 121167 x25 x26 x28 x30 x31 x34 x37 w := by
 simp only [NW, Try.f26, Option.getD_some, codeR, codeL, regOps, nF]
 refine ready_ (rs := [4, 10, 13]) (by kernel_rfl) (by decide) ?_
 refine m_ 4 25 (fun K hK => ?_) ?_; rotate_left
 refine m_ 10 31 (fun K hK => ?_) ?_; rotate_left
 refine m_ 13 34 (fun K hK => ?_) ?_; rotate_left
 exact AllReadyL.nil
 ·refine goes_ Try.func56 (by kernel_rfl) rfl #[.slice gA arcs.length gc] (by rfl) rfl rfl byL ?_
  refine (clone_arcs gA gc arcs _ h.cA (by omega)).mono ?_
  rintro e w1 ⟨v, rfl, hr, hb⟩
  obtain ⟨Av, cv, rfl⟩ := Kd.R_slice hr
  refine ⟨_, rfl, ?_⟩
  have h' := h.putA hb hr
  refine hK.out _ _ ⟨h'.c0, h'.c1⟩ (fun _ => ?_)
  refine n_ 25 ?_
  refine p_ 5 26 ?_ (hQ := fun c a w h => hQ c a w _ _ h)
  exact nst_1001 hn hal hll hlc hkr hQ hfin rfl h'
 ·refine value_ (w1 := ?_) (v := ?_) (by rfl) rfl ?_ ?_; rotate_left 2; (·have hmk := @run_makeMap Try.prog; go_simp; constructor; (·rfl); (·rfl))
  have h' := h.putM
  refine hK.out _ _ ⟨h'.c0, h'.c1⟩ (fun _ => ?_)
  refine n_ 31 ?_
  exact nst_0101 hn hal hll hlc hkr hQ hfin h'
 ·refine value_ (w1 := ?_) (v := ?_) (by rfl) rfl ?_ ?_; rotate_left 2; (·have hmk := run_nilRows n hn; go_simp; constructor; (·rfl); (·rfl))
  have h' := h.putU
  refine hK.out _ _ ⟨h'.c0, h'.c1⟩ (fun _ => ?_)
  refine n_ 34 ?_
  exact nst_0011 hn hal hll hlc hkr hQ hfin h'
include hn hal hll hlc hkr hQ in
set_option maxHeartbeats 1600000 in
set_option maxRecDepth 100000 in
theorem nst_0010 (hfin : NFn Q W0 y base b0 n gA gc lA lc arcs L R) {w : World} {o : Tags} {x25 x26 x28 x30 x31 x34 x37 : Value} (h : NInv W0 w base b0 o n gA gc lA lc arcs L R 0 false true false x25 x28 x30 x31 x34 x37) : NW Q y b0 n gA gc lA lc arcs L 9 63823 x25 x26 x28 x30 x31 x34 x37 w := by
 simp only [NW, Try.f26, Option.getD_some, codeR, codeL, regOps, nF]
 refine ready_ (rs := [4, 10, 16]) (by kernel_rfl) (by decide) ?_
 refine m_ 4 25 (fun K hK => ?_) ?_; rotate_left
 refine m_ 10 31 (fun K hK => ?_) ?_; rotate_left
 refine m_ 16 37 (fun K hK => ?_) ?_; rotate_left
 exact AllReadyL.nil
 ·refine goes_ Try.func56 (by kernel_rfl) rfl #[.slice gA arcs.length gc] (by rfl) rfl rfl byL ?_
  refine (clone_arcs gA gc arcs _ h.cA (by omega)).mono ?_
  rintro e w1 ⟨v, rfl, hr, hb⟩
  obtain ⟨Av, cv, rfl⟩ := Kd.R_slice hr
  refine ⟨_, rfl, ?_⟩
  have h' := h.putA hb hr
  refine hK.out _ _ ⟨h'.c0, h'.c1⟩ (fun _ => ?_)
  refine n_ 25 ?_
  refine p_ 5 26 ?_ (hQ := fun c a w h => hQ c a w _ _ h)
  exact nst_1010 hn hal hll hlc hkr hQ hfin rfl h'
 ·refine value_ (w1 := ?_) (v := ?_) (by rfl) rfl ?_ ?_; rotate_left 2; (·have hmk := @run_makeMap Try.prog; go_simp; constructor; (·rfl); (·rfl))
  have h' := h.putM
  refine hK.out _ _ ⟨h'.c0, h'.c1⟩ (fun _ => ?_)
  refine n_ 31 ?_
  exact nst_0110 hn hal hll hlc hkr hQ hfin h'
 ·refine value_ (w1 := ?_) (v := ?_) (by rfl) rfl ?_ ?_; rotate_left 2; (·have hmk := run_nilRows n hn; go_simp; constructor; (·rfl); (·rfl))
  have h' := h.putD
  refine hK.out _ _ ⟨h'.c0, h'.c1⟩ (fun _ => ?_)
  refine n_ 37 ?_
  exact nst_0011 hn hal hll hlc hkr hQ hfin h'
include hn hal hll hlc hkr hQ in
set_option maxHeartbeats 1600000 in
set_option maxRecDepth 100000 in
theorem nst_0100 (hfin : NFn Q W0 y base b0 n gA gc lA lc arcs L R) {w : World} {o : Tags} {x25 x26 x28 x30 x31 x34 x37 : Value} (h : NInv W0 w base b0 o n gA gc lA lc arcs L R 0 true false false x25 x28 x30 x31 x34 x37) : NW Q y b0 n gA gc lA lc arcs L 9 56655 x25 x26 x28 x30 x31 x34 x37 w := by
 simp only [NW, Try.f26, Option.getD_some, codeR, codeL, regOps, nF]
 refine ready_ (rs := [4, 13, 16]) (by kernel_rfl) (by decide) ?_
 refine m_ 4 25 (fun K hK => ?_) ?_; rotate_left
 refine m_ 13 34 (fun K hK => ?_) ?_; rotate_left
 refine m_ 16 37 (fun K hK => ?_) ?_; rotate_left
 exact AllReadyL.nil
 ·refine goes_ Try.func56 (by kernel_rfl) rfl #[.slice gA arcs.length gc] (by rfl) rfl rfl byL ?_
  refine (clone_arcs gA gc arcs _ h.cA (by omega)).mono ?_
  rintro e w1 ⟨v, rfl, hr, hb⟩
  obtain ⟨Av, cv, rfl⟩ := Kd.R_slice hr
  refine ⟨_, rfl, ?_⟩
  have h' := h.putA hb hr
  refine hK.out _ _ ⟨h'.c0, h'.c1⟩ (fun _ => ?_)
  refine n_ 25 ?_
  refine p_ 5 26 ?_ (hQ := fun c a w h => hQ c a w _ _ h)
  exact nst_1100 hn hal hll hlc hkr hQ hfin rfl h'
 ·refine value_ (w1 := ?_) (v := ?_) (by rfl) rfl ?_ ?_; rotate_left 2; (·have hmk := run_nilRows n hn; go_simp; constructor; (·rfl); (·rfl))
  have h' := h.putU
  refine hK.out _ _ ⟨h'.c0, h'.c1⟩ (fun _ => ?_)
  refine n_ 34 ?_
  exact nst_0110 hn hal hll hlc hkr hQ hfin h'
 ·refine value_ (w1 := ?_) (v := ?_) (by rfl) rfl ?_ ?_; rotate_left 2; (·have hmk := run_nilRows n hn; go_simp; constructor; (·rfl); (·rfl))
  have h' := h.putD
  refine hK.out _ _ ⟨h'.c0, h'.c1⟩ (fun _ => ?_)
  refine n_ 37 ?_
  exact nst_0101 hn hal hll hlc hkr hQ hfin h'
include hn hal hll hlc hkr hQ in
set_option maxHeartbeats 1600000 in
set_option maxRecDepth 100000 in
theorem nst_1000 (hfin : NFn Q W0 y base b0 n gA gc lA lc arcs L R) {w : World} {o : Tags} {x25 x26 x28 x30 x31 x34 x37 : Value} (he : x26 = .agg #[.int .i64 (n : Int), x25]) (h : NInv W0 w base b0 o n gA gc lA lc arcs L R 1 false false false x25 x28 x30 x31 x34 x37) : NW Q y b0 n gA gc lA lc arcs L 8 55679 x25 x26 x28 x30 x31 x34 x37 w := by
 simp only [NW, Try.f26, Option.getD_some, codeR, codeL, regOps, nF]
 refine ready_ (rs := [7, 10, 13, 16]) (by kernel_rfl) (by decide) ?_
 refine m_ 7 28 (fun K hK => ?_) ?_; rotate_left
 refine m_ 10 31 (fun K hK => ?_) ?_; rotate_left
 refine m_ 13 34 (fun K hK => ?_) ?_; rotate_left
 refine m_ 16 37 (fun K hK => ?_) ?_; rotate_left
 exact AllReadyL.nil
 ·refine goes_ Try.func57 (by kernel_rfl) rfl #[.slice lA L.length lc] (by rfl) rfl rfl byL ?_
  refine (clone_ints lA lc L _ h.cL (by omega)).mono ?_
  rintro e w1 ⟨v, rfl, hr, hb⟩
  refine ⟨_, rfl, ?_⟩
  have h' := h.putL hb hr
  refine hK.out _ _ ⟨h'.c0, h'.c1⟩ (fun _ => ?_)
  refine n_ 28 ?_
  exact nst_2000 hn hal hll hlc hkr hQ hfin he h'
 ·refine value_ (w1 := ?_) (v := ?_) (by rfl) rfl ?_ ?_; rotate_left 2; (·have hmk := @run_makeMap Try.prog; go_simp; constructor; (·rfl); (·rfl))
  have h' := h.putM
  refine hK.out _ _ ⟨h'.c0, h'.c1⟩ (fun _ => ?_)
  refine n_ 31 ?_
  exact nst_1100 hn hal hll hlc hkr hQ hfin he h'
 ·refine value_ (w1 := ?_) (v := ?_) (by rfl) rfl ?_ ?_; rotate_left 2; (·have hmk := run_nilRows n hn; go_simp; constructor; (·rfl); (·rfl))
  have h' := h.putU
  refine hK.out _ _ ⟨h'.c0, h'.c1⟩ (fun _ => ?_)
  refine n_ 34 ?_
  exact nst_1010 hn hal hll hlc hkr hQ hfin he h'
 ·refine value_ (w1 := ?_) (v := ?_) (by rfl) rfl ?_ ?_; rotate_left 2; (·have hmk := run_nilRows n hn; go_simp; constructor; (·rfl); (·rfl))
  have h' := h.putD
  refine hK.out _ _ ⟨h'.c0, h'.c1⟩ (fun _ => ?_)
  refine n_ 37 ?_
  exact nst_1001 hn hal hll hlc hkr hQ hfin he h'
include hn hal hll hlc hkr hQ in
set_option maxHeartbeats 1600000 in
set_option maxRecDepth 100000 in
theorem nst_0000 (hfin : NFn Q W0 y base b0 n gA gc lA lc arcs L R) {w : World} {o : Tags} {x25 x26 x28 x30 x31 x34 x37 : Value} (h : NInv W0 w base b0 o n gA gc lA lc arcs L R 0 false false false x25 x28 x30 x31 x34 x37) : NW Q y b0 n gA gc lA lc arcs L 10 55631 x25 x26 x28 x30 x31 x34 x37 w := by
 simp only [NW, Try.f26, Option.getD_some, codeR, codeL, regOps, nF]
 refine ready_ (rs := [4, 10, 13, 16]) (by kernel_rfl) (by decide) ?_
 refine m_ 4 25 (fun K hK => ?_) ?_; rotate_left
 refine m_ 10 31 (fun K hK => ?_) ?_; rotate_left
 refine m_ 13 34 (fun K hK => ?_) ?_; rotate_left
 refine m_ 16 37 (fun K hK => ?_) ?_; rotate_left
 exact AllReadyL.nil
 ·refine goes_ Try.func56 (by kernel_rfl) rfl #[.slice gA arcs.length gc] (by rfl) rfl rfl byL ?_
  refine (clone_arcs gA gc arcs _ h.cA (by omega)).mono ?_
  rintro e w1 ⟨v, rfl, hr, hb⟩
  obtain ⟨Av, cv, rfl⟩ := Kd.R_slice hr
  refine ⟨_, rfl, ?_⟩
  have h' := h.putA hb hr
  refine hK.out _ _ ⟨h'.c0, h'.c1⟩ (fun _ => ?_)
  refine n_ 25 ?_
  refine p_ 5 26 ?_ (hQ := fun c a w h => hQ c a w _ _ h)
  exact nst_1000 hn hal hll hlc hkr hQ hfin rfl h'
 ·refine value_ (w1 := ?_) (v := ?_) (by rfl) rfl ?_ ?_; rotate_left 2; (·have hmk := @run_makeMap Try.prog; go_simp; constructor; (·rfl); (·rfl))
  have h' := h.putM
  refine hK.out _ _ ⟨h'.c0, h'.c1⟩ (fun _ => ?_)
  refine n_ 31 ?_
  exact nst_0100 hn hal hll hlc hkr hQ hfin h'
 ·refine value_ (w1 := ?_) (v := ?_) (by rfl) rfl ?_ ?_; rotate_left 2; (·have hmk := run_nilRows n hn; go_simp; constructor; (·rfl); (·rfl))
  have h' := h.putU
  refine hK.out _ _ ⟨h'.c0, h'.c1⟩ (fun _ => ?_)
  refine n_ 34 ?_
  exact nst_0010 hn hal hll hlc hkr hQ hfin h'
 ·refine value_ (w1 := ?_) (v := ?_) (by rfl) rfl ?_ ?_; rotate_left 2; (·have hmk := run_nilRows n hn; go_simp; constructor; (·rfl); (·rfl))
  have h' := h.putD
  refine hK.out _ _ ⟨h'.c0, h'.c1⟩ (fun _ => ?_)
  refine n_ 37 ?_
  exact nst_0001 hn hal hll hlc hkr hQ hfin h'
include hn hal hll hlc hkr hQ in
set_option maxHeartbeats 1600000 in
set_option maxRecDepth 100000 in
theorem new_region {y0 y3 y4 y5 y6 y7 y8 y9 y10 y11 y12 y13 y14 y15 y16 y17 y18 y19 y20 : Value} (hfin : ∀ (w : World) (o : Tags) (v25 v26 v28 v30 v31 v34 v37 : Value), v26 = .agg #[.int .i64 (n : Int), v25] → NInv W0 w base b0 o n gA gc lA lc arcs L R 3 true true true v25 v28 v30 v31 v34 v37 → Q .normal { tmps := #[y0, .slice lA L.length lc, .pointer (some ⟨b0, 0, none⟩), y3, y4, y5, y6, y7, .pointer (some ⟨w.heap.size, 0, none⟩), y9, y10, y11, y12, y13, y14, y15, y16, y17, y18, y19, y20, .pointer (some ⟨b0, 0, none⟩), .int .i64 (n : Int), .pointer (some ⟨b0, 1, none⟩), .slice gA arcs.length gc, v25, v26, .slice lA L.length lc, v28, .slice lA L.length lc, v30, v31, .pointer (some ⟨b0, 0, none⟩), .int .i64 (n : Int), v34, .pointer (some ⟨b0, 0, none⟩), .int .i64 (n : Int), v37, .agg #[.int .i64 (n : Int), v25, v28, v30, .slice none 0 0, v31, v34, v37], .pointer (some ⟨w.heap.size, 0, none⟩), undef, undef, undef], defers := [] } (w.alloc (.cells #[.int .i64 (n : Int), v25, v28, v30, .slice none 0 0, v31, v34, v37] 108 (0, 0)))) {w : World} {o : Tags} (h : NInv W0 w.drew base b0 o n gA gc lA lc arcs L R 0 false false false undef undef undef undef undef undef) : (Code.region 7 (regOps (codeL (codeR (codeR (codeR (Try.f26.body.getD .skip)))))) true).wp Try.prog Q { tmps := #[y0, .slice lA L.length lc, .pointer (some ⟨b0, 0, none⟩), y3, y4, y5, y6, y7, y8, y9, y10, y11, y12, y13, y14, y15, y16, y17, y18, y19, y20, undef, undef, undef, undef, undef, undef, undef, undef, undef, undef, undef, undef, undef, undef, undef, undef, undef, undef, undef, undef, undef, undef], defers := [] } w := by
 simp only [Try.f26, Option.getD_some, codeR, codeL, regOps]
 refine s_ (nS b0 n (.slice gA arcs.length gc)) [] ⟨h.c0, h.c1⟩ (fun hHeld => ?_)
 refine p_ 0 21 ?_ (hQ := fun c a w h => hQ c a w _ _ h)
 refine t2_ 1 22 hHeld ?_ (hQ := fun c a w h => hQ c a w _ _ h)
 refine p_ 2 23 ?_ (hQ := fun c a w h => hQ c a w _ _ h)
 refine t2_ 3 24 hHeld ?_ (hQ := fun c a w h => hQ c a w _ _ h)
 refine p_ 6 27 ?_ (hQ := fun c a w h => hQ c a w _ _ h)
 refine p_ 8 29 ?_ (hQ := fun c a w h => hQ c a w _ _ h)
 refine p_ 11 32 ?_ (hQ := fun c a w h => hQ c a w _ _ h)
 refine t2_ 12 33 hHeld ?_ (hQ := fun c a w h => hQ c a w _ _ h)
 refine p_ 14 35 ?_ (hQ := fun c a w h => hQ c a w _ _ h)
 refine t2_ 15 36 hHeld ?_ (hQ := fun c a w h => hQ c a w _ _ h)
 exact nst_0000 (y := fun i => match i with | 0 => y0 | 3 => y3 | 4 => y4 | 5 => y5 | 6 => y6 | 7 => y7 | 8 => y8 | 9 => y9 | 10 => y10 | 11 => y11 | 12 => y12 | 13 => y13 | 14 => y14 | 15 => y15 | 16 => y16 | 17 => y17 | 18 => y18 | 19 => y19 | 20 => y20 | _ => y0) hn hal hll hlc hkr hQ hfin h
end
end Go.Proofs.Ytfnophaiamkmpaa.Print
