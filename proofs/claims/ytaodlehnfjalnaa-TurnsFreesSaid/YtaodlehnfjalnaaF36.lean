/- Written by a program of this claim's author (xprint.py, over the kit's print.py): the call of mapmaker/roads.Check comes to what the Lean function of its name says. -/
import Derived.Test.YtaodlehnfjalnaaPrint0
import Derived.Test.YtaodlehnfjalnaaF59
import Derived.Test.YtaodlehnfjalnaaM0
namespace Go.Proofs.Ytaodlehnfjalnaa.Print
open Go.RowKit Go.Proofs.YtaodlehnfjalnaaW.PrintWords Go.Proofs.YtaodlehnfjalnaaW.PrintLast Go.Proofs.YtaodlehnfjalnaaW.PrintMore
attribute [local go_sem] max2_int min2_int max_two min_two max_three min_three max_four min_four   -- for this text's walks alone
set_option linter.unusedVariables false
set_option linter.unusedSimpArgs false
/-! ### roads_Check: function 36 -/
mutual
def roads_Check.l0 : Nat → Int → List Int → List (S158) → List (S58) → Option (Int)
 | 0, _, _, _, _ => none
 | k + 1, x3, x226000, x226001, x226002 => if x3 < (x226000.length : Int) then (if 0 ≤ (wrap64 (x3 - 1)) then (if (wrap64 (x3 - 1)) < (x226000.length : Int) then (if 0 ≤ x3 then (if (rd x226000 (wrap64 (x3 - 1))) ≥ (rd x226000 x3) then (some 6) else (roads_Check.l0 k (wrap64 (x3 + 1)) x226000 x226001 x226002)) else (none)) else (none)) else (none)) else (roads_Check.l1 k (x226000.length : Int) x226002 (x226002.length : Int) 0)
def roads_Check.l1 : Nat → Int → List (S58) → Int → Int → Option (Int)
 | 0, _, _, _, _ => none
 | k + 1, x4, x38, x39, x40 => if x40 < x39 then (if 0 ≤ x40 then (if x40 < (x38.length : Int) then (if ((rd_T58 x38 x40).f0) < 0 then (roads_Check.j2 k x4 x38 x39 x40 true ((rd_T58 x38 x40).f0) ((rd_T58 x38 x40).f1) ((rd_T58 x38 x40).f2) ((rd_T58 x38 x40).f3) ((rd_T58 x38 x40).f4) ((rd_T58 x38 x40).f5.f0) ((rd_T58 x38 x40).f5.f1) ((rd_T58 x38 x40).f5.f2)) else (if ((rd_T58 x38 x40).f0) ≥ x4 then (roads_Check.j2 k x4 x38 x39 x40 true ((rd_T58 x38 x40).f0) ((rd_T58 x38 x40).f1) ((rd_T58 x38 x40).f2) ((rd_T58 x38 x40).f3) ((rd_T58 x38 x40).f4) ((rd_T58 x38 x40).f5.f0) ((rd_T58 x38 x40).f5.f1) ((rd_T58 x38 x40).f5.f2)) else (if ((rd_T58 x38 x40).f1) < 0 then (roads_Check.j2 k x4 x38 x39 x40 true ((rd_T58 x38 x40).f0) ((rd_T58 x38 x40).f1) ((rd_T58 x38 x40).f2) ((rd_T58 x38 x40).f3) ((rd_T58 x38 x40).f4) ((rd_T58 x38 x40).f5.f0) ((rd_T58 x38 x40).f5.f1) ((rd_T58 x38 x40).f5.f2)) else (if ((rd_T58 x38 x40).f1) ≥ x4 then (roads_Check.j2 k x4 x38 x39 x40 true ((rd_T58 x38 x40).f0) ((rd_T58 x38 x40).f1) ((rd_T58 x38 x40).f2) ((rd_T58 x38 x40).f3) ((rd_T58 x38 x40).f4) ((rd_T58 x38 x40).f5.f0) ((rd_T58 x38 x40).f5.f1) ((rd_T58 x38 x40).f5.f2)) else (if ((rd_T58 x38 x40).f2) < 1 then (roads_Check.j2 k x4 x38 x39 x40 true ((rd_T58 x38 x40).f0) ((rd_T58 x38 x40).f1) ((rd_T58 x38 x40).f2) ((rd_T58 x38 x40).f3) ((rd_T58 x38 x40).f4) ((rd_T58 x38 x40).f5.f0) ((rd_T58 x38 x40).f5.f1) ((rd_T58 x38 x40).f5.f2)) else (if ((rd_T58 x38 x40).f2) > 2147483647 then (roads_Check.j2 k x4 x38 x39 x40 true ((rd_T58 x38 x40).f0) ((rd_T58 x38 x40).f1) ((rd_T58 x38 x40).f2) ((rd_T58 x38 x40).f3) ((rd_T58 x38 x40).f4) ((rd_T58 x38 x40).f5.f0) ((rd_T58 x38 x40).f5.f1) ((rd_T58 x38 x40).f5.f2)) else (if ((rd_T58 x38 x40).f4) < 1 then (roads_Check.j2 k x4 x38 x39 x40 true ((rd_T58 x38 x40).f0) ((rd_T58 x38 x40).f1) ((rd_T58 x38 x40).f2) ((rd_T58 x38 x40).f3) ((rd_T58 x38 x40).f4) ((rd_T58 x38 x40).f5.f0) ((rd_T58 x38 x40).f5.f1) ((rd_T58 x38 x40).f5.f2)) else (if ((rd_T58 x38 x40).f4) > 6 then (roads_Check.j2 k x4 x38 x39 x40 true ((rd_T58 x38 x40).f0) ((rd_T58 x38 x40).f1) ((rd_T58 x38 x40).f2) ((rd_T58 x38 x40).f3) ((rd_T58 x38 x40).f4) ((rd_T58 x38 x40).f5.f0) ((rd_T58 x38 x40).f5.f1) ((rd_T58 x38 x40).f5.f2)) else (if ((rd_T58 x38 x40).f3) < 0 then (roads_Check.j2 k x4 x38 x39 x40 true ((rd_T58 x38 x40).f0) ((rd_T58 x38 x40).f1) ((rd_T58 x38 x40).f2) ((rd_T58 x38 x40).f3) ((rd_T58 x38 x40).f4) ((rd_T58 x38 x40).f5.f0) ((rd_T58 x38 x40).f5.f1) ((rd_T58 x38 x40).f5.f2)) else (roads_Check.j2 k x4 x38 x39 x40 (decide (((rd_T58 x38 x40).f3) > 67108864)) ((rd_T58 x38 x40).f0) ((rd_T58 x38 x40).f1) ((rd_T58 x38 x40).f2) ((rd_T58 x38 x40).f3) ((rd_T58 x38 x40).f4) ((rd_T58 x38 x40).f5.f0) ((rd_T58 x38 x40).f5.f1) ((rd_T58 x38 x40).f5.f2))))))))))) else (none)) else (none)) else (some 0)
def roads_Check.j2 : Nat → Int → List (S58) → Int → Int → Bool → Int → Int → Int → Int → Int → List (S120) → Int → Int → Option (Int)
 | 0, _, _, _, _, _, _, _, _, _, _, _, _, _ => none
 | k + 1, x4, x38, x39, x40, x93, x230000, x230001, x230002, x230003, x230004, x230005, x230006, x230007 => if x93 = true then (some 2) else ((schedule_Check.f k x230005 x230006 x230007).bind fun t230 => (if t230 = 0 then (roads_Check.l1 k x4 x38 x39 (wrap64 (x40 + 1))) else (some t230)))
end
def roads_Check.f (k : Nat) (l0_0 : List Int) (l0_1 : List (S158)) (l0_2 : List (S58)) : Option (Int) := if (l0_0.length : Int) = (l0_1.length : Int) then (roads_Check.l0 k 1 l0_0 l0_1 l0_2) else (some 12)
set_option maxHeartbeats 8000000 in
set_option maxRecDepth 100000 in
theorem roads_Check.calls (k : Nat) (A0_0 : Option Addr) (c0_0 : Nat) (l0_0 : List Int) (A0_1 : Option Addr) (c0_1 : Nat) (l0_1 : List (S158)) (A0_2 : Option Addr) (c0_2 : Nat) (l0_2 : List (S58)) (r : Int) (w : World) (hr0_0 : Kd.C (Kd.int .i64) w A0_0 l0_0.length l0_0) (hc0_0 : l0_0.length ≤ c0_0) (hr0_1 : Kd.C k158 w A0_1 l0_1.length l0_1) (hc0_1 : l0_1.length ≤ c0_1) (hr0_2 : Kd.C k58 w A0_2 l0_2.length l0_2) (hc0_2 : l0_2.length ≤ c0_2) (h : roads_Check.f k l0_0 l0_1 l0_2 = some r) :
  Calls Try.prog 36 #[.agg #[.slice A0_0 l0_0.length c0_0, .slice A0_1 l0_1.length c0_1, .slice A0_2 l0_2.length c0_2]] w fun e w' => e = .returned (.int .i64 r) ∧ Below w.heap.size w w' := by
 have hu37 := Try.underlying37; have hu58 := Try.underlying58; have hu56 := Try.underlying56; have HR0_0 := Aside0.mk hr0_0; have HC0_0 := Aside0.mk hc0_0; clear hr0_0 hc0_0; have HR0_1 := Aside0.mk hr0_1; have HC0_1 := Aside0.mk hc0_1; clear hr0_1 hc0_1; have HR0_2 := Aside0.mk hr0_2; have HC0_2 := Aside0.mk hc0_2; clear hr0_2 hc0_2; have HB := Aside0.mk (Below.refl w.heap.size w)
 have H : (if (l0_0.length : Int) = (l0_1.length : Int) then (roads_Check.l0 k 1 l0_0 l0_1 l0_2) else (some 12)) = some r := h
 clear h
 by_cases c2 : (l0_0.length : Int) = (l0_1.length : Int)
 ·rw [if_pos c2] at H
  have c2b0 : ((l0_0.length : Int) == (l0_1.length : Int)) = true := beq_iff_eq.mpr c2
  have c2b1 : ((l0_0.length : Int) != (l0_1.length : Int)) = false := bne_eq_false_iff_eq.mpr c2
  have c2b2 : (l0_0.length == l0_1.length) = true := by first | simpa using c2 | (simp at c2 ⊢; omega)
  clear c2
  have H' := Aside0.mk H
  clear H
  go_enter Try.func36, Try.ntmps36
  go_wp2_with (first | ((with_reducible refine gate_dst (N := 1) rfl ?_); refine box_event ?hg (N := 1) ?hd (cs := #[.slice A0_0 l0_0.length c0_0, .slice A0_1 l0_1.length c0_1, .slice A0_2 l0_2.length c0_2]) (t := 37) ?hr ?_; (case hd => rfl); (case hg => rfl); (case hr => first | (go_simp; done) | (go_simp; rfl)); intro gb225 hg w3 hbox hb; have n0_ := Aside0.mk (below_step (byB HB.out) hb); have n1_ := Aside0.mk (hbox); have n2_ := Aside0.mk ((by rw [hg]; exact (below_size (byB HB.out)) : w.heap.size ≤ gb225)); have n3_ := Aside0.mk ((by rw [hg]; exact (below_size (byB HB.out)) : w.heap.size ≤ gb225)); clear HB; have HB := n0_; have BK225 := n1_; have GW225 := n2_; have GE225 := n3_; clear n0_ n1_ n2_ n3_ hb hbox hg; have hcz4_0 : w3.cell? ⟨gb225, 0, none⟩ = some (.slice A0_0 l0_0.length c0_0) := (blk_cell BK225.out 0).trans rfl; have hcz4_1 : w3.cell? ⟨gb225, 1, none⟩ = some (.slice A0_1 l0_1.length c0_1) := (blk_cell BK225.out 1).trans rfl; have hcz4_2 : w3.cell? ⟨gb225, 2, none⟩ = some (.slice A0_2 l0_2.length c0_2) := (blk_cell BK225.out 2).trans rfl; have hfz4_0 := blk_frozen BK225.out 0; have hfz4_1 := blk_frozen BK225.out 1; have hfz4_2 := blk_frozen BK225.out 2))
  repeat (go_quiet (first | ((with_reducible refine gate_dst (N := 1) rfl ?_); refine box_event ?hg (N := 1) ?hd (cs := #[.slice A0_0 l0_0.length c0_0, .slice A0_1 l0_1.length c0_1, .slice A0_2 l0_2.length c0_2]) (t := 37) ?hr ?_; (case hd => rfl); (case hg => rfl); (case hr => first | (go_simp; done) | (go_simp; rfl)); intro gb225 hg w3 hbox hb; have n0_ := Aside0.mk (below_step (byB HB.out) hb); have n1_ := Aside0.mk (hbox); have n2_ := Aside0.mk ((by rw [hg]; exact (below_size (byB HB.out)) : w.heap.size ≤ gb225)); have n3_ := Aside0.mk ((by rw [hg]; exact (below_size (byB HB.out)) : w.heap.size ≤ gb225)); clear HB; have HB := n0_; have BK225 := n1_; have GW225 := n2_; have GE225 := n3_; clear n0_ n1_ n2_ n3_ hb hbox hg; have hcz4_0 : w3.cell? ⟨gb225, 0, none⟩ = some (.slice A0_0 l0_0.length c0_0) := (blk_cell BK225.out 0).trans rfl; have hcz4_1 : w3.cell? ⟨gb225, 1, none⟩ = some (.slice A0_1 l0_1.length c0_1) := (blk_cell BK225.out 1).trans rfl; have hcz4_2 : w3.cell? ⟨gb225, 2, none⟩ = some (.slice A0_2 l0_2.length c0_2) := (blk_cell BK225.out 2).trans rfl; have hfz4_0 := blk_frozen BK225.out 0; have hfz4_1 := blk_frozen BK225.out 1; have hfz4_2 := blk_frozen BK225.out 2)); try go_wp2_with (first | ((with_reducible refine gate_dst (N := 1) rfl ?_); refine box_event ?hg (N := 1) ?hd (cs := #[.slice A0_0 l0_0.length c0_0, .slice A0_1 l0_1.length c0_1, .slice A0_2 l0_2.length c0_2]) (t := 37) ?hr ?_; (case hd => rfl); (case hg => rfl); (case hr => first | (go_simp; done) | (go_simp; rfl)); intro gb225 hg w3 hbox hb; have n0_ := Aside0.mk (below_step (byB HB.out) hb); have n1_ := Aside0.mk (hbox); have n2_ := Aside0.mk ((by rw [hg]; exact (below_size (byB HB.out)) : w.heap.size ≤ gb225)); have n3_ := Aside0.mk ((by rw [hg]; exact (below_size (byB HB.out)) : w.heap.size ≤ gb225)); clear HB; have HB := n0_; have BK225 := n1_; have GW225 := n2_; have GE225 := n3_; clear n0_ n1_ n2_ n3_ hb hbox hg; have hcz4_0 : w3.cell? ⟨gb225, 0, none⟩ = some (.slice A0_0 l0_0.length c0_0) := (blk_cell BK225.out 0).trans rfl; have hcz4_1 : w3.cell? ⟨gb225, 1, none⟩ = some (.slice A0_1 l0_1.length c0_1) := (blk_cell BK225.out 1).trans rfl; have hcz4_2 : w3.cell? ⟨gb225, 2, none⟩ = some (.slice A0_2 l0_2.length c0_2) := (blk_cell BK225.out 2).trans rfl; have hfz4_0 := blk_frozen BK225.out 0; have hfz4_1 := blk_frozen BK225.out 1; have hfz4_2 := blk_frozen BK225.out 2)))
  go_loopg [3] k (fun kq v3 w' => ∃ (x3_1 : Int), v3 = .int .i64 x3_1 ∧ Aside0 (roads_Check.l0 kq x3_1 l0_0 l0_1 l0_2 = some r) ∧ Aside0 (kq ≤ k) ∧ Aside0 (w'.heap[gb225]? = some (.cells #[(.slice A0_0 l0_0.length c0_0), (.slice A0_1 l0_1.length c0_1), (.slice A0_2 l0_2.length c0_2)] 37 (0, 0))) ∧ Aside0 (Below w.heap.size w w'))
  case atStart => exact ⟨(1), byF, H', ⟨Nat.le_refl _⟩, ⟨by (with_reducible repeat (first | refine blk_drewN ?_ _ | refine blk_drew ?_ | refine blk_alloc ?_ _)); exact BK225.out⟩, ⟨byB1 HB.out GE225.out⟩⟩
  case round =>
   clear H'
   try clear c2
   try clear c2b0
   try clear c2b1
   try clear c2b2
   try clear p2
   try clear c3
   try clear hcz4_0
   try clear hcz4_1
   try clear hcz4_2
   try clear hfz4_0
   try clear hfz4_1
   try clear hfz4_2
   obtain ⟨x3_1, rfl, HA, HK1, BK225, HB⟩ := hrel
   cases gk with
   | zero => exact absurd HA.out (by simp [roads_Check.l0])
   | succ k1 =>
    have H := HA.out; clear HA
    simp only [roads_Check.l0] at H
    by_cases c5 : x3_1 < (l0_0.length : Int)
    ·rw [if_pos c5] at H
     have c5b0 : decide (x3_1 < (l0_0.length : Int)) = true := decide_eq_true c5
     clear c5
     obtain ⟨ji6, hji6⟩ : ∃ j_ : Int, (wrap64 (x3_1 - 1)) = j_ := ⟨_, rfl⟩
     replace H : (if 0 ≤ (ji6) then (if (ji6) < (l0_0.length : Int) then (if 0 ≤ x3_1 then (if (rd l0_0 (ji6)) ≥ (rd l0_0 x3_1) then (some 6) else (roads_Check.l0 k1 (wrap64 (x3_1 + 1)) l0_0 l0_1 l0_2)) else (none)) else (none)) else (none)) = some r := by first | (rw [hji6] at H; exact H) | (simp only [hji6] at H ⊢; exact H)
     have hji6w : (IntKind.i64.wrap (x3_1 - 1)) = ji6 := (i64_w _).trans hji6
     by_cases c7 : 0 ≤ (ji6)
     ·rw [if_pos c7] at H
      have c7b0 : decide (0 ≤ (ji6)) = true := decide_eq_true c7
      clear c7
      by_cases c8 : (ji6) < (l0_0.length : Int)
      ·rw [if_pos c8] at H
       have c8b0 : decide ((ji6) < (l0_0.length : Int)) = true := decide_eq_true c8
       clear c8
       by_cases c9 : 0 ≤ x3_1
       ·rw [if_pos c9] at H
        have c9b0 : decide (0 ≤ x3_1) = true := decide_eq_true c9
        clear c9
        by_cases c10 : (rd l0_0 (ji6)) ≥ (rd l0_0 x3_1)
        ·rw [if_pos c10] at H
         have c10b0 : decide ((rd l0_0 x3_1) ≤ (rd l0_0 (ji6))) = true := decide_eq_true c10
         clear c10
         obtain rfl := Option.some.inj H
         have hcz11_0 : wr.cell? ⟨gb225, 0, none⟩ = some (.slice A0_0 l0_0.length c0_0) := (blk_cell BK225.out 0).trans rfl
         have hcz11_1 : wr.cell? ⟨gb225, 1, none⟩ = some (.slice A0_1 l0_1.length c0_1) := (blk_cell BK225.out 1).trans rfl
         have hcz11_2 : wr.cell? ⟨gb225, 2, none⟩ = some (.slice A0_2 l0_2.length c0_2) := (blk_cell BK225.out 2).trans rfl
         have hfz11_0 := blk_frozen BK225.out 0; have hfz11_1 := blk_frozen BK225.out 1; have hfz11_2 := blk_frozen BK225.out 2
         have p226 : 0 ≤ ((ji6) : Int) := odt
         have q226 : (ji6) < (l0_0.length : Int) := odt
         obtain ⟨ad226, e226, hx226_0⟩ := Kd.at_int HR0_0.out (ji6) p226 q226
         cases e226
         replace hx226_0 := (HB.out.cell (World.block_lt_of_cell? w _ hx226_0)).trans hx226_0
         replace p226 := eq_true p226; replace q226 := eq_true q226
         have p227 : 0 ≤ (x3_1 : Int) := odt
         have q227 : x3_1 < (l0_0.length : Int) := odt
         obtain ⟨ad227, e227, hx227_0⟩ := Kd.at_int HR0_0.out x3_1 p227 q227
         obtain rfl : ad226 = ad227 := (by injection e227)
         replace hx227_0 := (HB.out.cell (World.block_lt_of_cell? w _ hx227_0)).trans hx227_0
         replace p227 := eq_true p227; replace q227 := eq_true q227
         go_wp2
         repeat (go_quiet (fail); try go_wp2)
         go_ret
         exact ⟨by first | rfl | (simp [errW_none, errW_some] <;> rfl) | (simp only [← hji6]; first | rfl | (simp [errW_none, errW_some] <;> rfl)) | (simp [*, errW_none, errW_some] <;> rfl), byB1 HB.out GE225.out⟩
        ·rw [if_neg c10] at H
         have c10b0 : decide ((rd l0_0 x3_1) ≤ (rd l0_0 (ji6))) = false := decide_eq_false c10
         clear c10
         have H' := Aside0.mk H
         clear H
         have hcz12_0 : wr.cell? ⟨gb225, 0, none⟩ = some (.slice A0_0 l0_0.length c0_0) := (blk_cell BK225.out 0).trans rfl
         have hcz12_1 : wr.cell? ⟨gb225, 1, none⟩ = some (.slice A0_1 l0_1.length c0_1) := (blk_cell BK225.out 1).trans rfl
         have hcz12_2 : wr.cell? ⟨gb225, 2, none⟩ = some (.slice A0_2 l0_2.length c0_2) := (blk_cell BK225.out 2).trans rfl
         have hfz12_0 := blk_frozen BK225.out 0; have hfz12_1 := blk_frozen BK225.out 1; have hfz12_2 := blk_frozen BK225.out 2
         have p226 : 0 ≤ ((ji6) : Int) := odt
         have q226 : (ji6) < (l0_0.length : Int) := odt
         obtain ⟨ad226, e226, hx226_0⟩ := Kd.at_int HR0_0.out (ji6) p226 q226
         cases e226
         replace hx226_0 := (HB.out.cell (World.block_lt_of_cell? w _ hx226_0)).trans hx226_0
         replace p226 := eq_true p226; replace q226 := eq_true q226
         have p227 : 0 ≤ (x3_1 : Int) := odt
         have q227 : x3_1 < (l0_0.length : Int) := odt
         obtain ⟨ad227, e227, hx227_0⟩ := Kd.at_int HR0_0.out x3_1 p227 q227
         obtain rfl : ad226 = ad227 := (by injection e227)
         replace hx227_0 := (HB.out.cell (World.block_lt_of_cell? w _ hx227_0)).trans hx227_0
         replace p227 := eq_true p227; replace q227 := eq_true q227
         go_wp2
         repeat (go_quiet (fail); try go_wp2)
         go_roundg k1
         case measure => have := HK1.out; omega
         case rel => exact ⟨(wrap64 (x3_1 + 1)), byF, H', ⟨by have := HK1.out; omega⟩, ⟨by (with_reducible repeat (first | refine blk_drewN ?_ _ | refine blk_drew ?_ | refine blk_alloc ?_ _)); exact BK225.out⟩, ⟨byB1 HB.out GE225.out⟩⟩
       ·rw [if_neg c9] at H
        exact absurd H (by simp)
      ·rw [if_neg c8] at H
       exact absurd H (by simp)
     ·rw [if_neg c7] at H
      exact absurd H (by simp)
    ·rw [if_neg c5] at H
     have c5b0 : decide (x3_1 < (l0_0.length : Int)) = false := decide_eq_false c5
     clear c5
     have H' := Aside0.mk H
     clear H
     have hcz13_0 : wr.cell? ⟨gb225, 0, none⟩ = some (.slice A0_0 l0_0.length c0_0) := (blk_cell BK225.out 0).trans rfl
     have hcz13_1 : wr.cell? ⟨gb225, 1, none⟩ = some (.slice A0_1 l0_1.length c0_1) := (blk_cell BK225.out 1).trans rfl
     have hcz13_2 : wr.cell? ⟨gb225, 2, none⟩ = some (.slice A0_2 l0_2.length c0_2) := (blk_cell BK225.out 2).trans rfl
     have hfz13_0 := blk_frozen BK225.out 0; have hfz13_1 := blk_frozen BK225.out 1; have hfz13_2 := blk_frozen BK225.out 2
     go_wp2
     repeat (go_quiet (fail); try go_wp2)
     go_loopg [40] k1 (fun kq v40 w' => ∃ (x40_2 : Int), v40 = .int .i64 x40_2 ∧ Aside0 (roads_Check.l1 kq (l0_0.length : Int) l0_2 (l0_2.length : Int) x40_2 = some r) ∧ Aside0 (kq ≤ k1) ∧ Aside0 (w'.heap[gb225]? = some (.cells #[(.slice A0_0 l0_0.length c0_0), (.slice A0_1 l0_1.length c0_1), (.slice A0_2 l0_2.length c0_2)] 37 (0, 0))) ∧ Aside0 (Below w.heap.size w w'))
     case atStart => exact ⟨(0), byF, H', ⟨Nat.le_refl _⟩, ⟨by (with_reducible repeat (first | refine blk_drewN ?_ _ | refine blk_drew ?_ | refine blk_alloc ?_ _)); exact BK225.out⟩, ⟨byB1 HB.out GE225.out⟩⟩
     case round =>
      clear H'
      try clear c1
      try clear c2
      try clear c2b0
      try clear c2b1
      try clear c2b2
      try clear p2
      try clear q2
      try clear hx2
      try clear c3
      try clear c5
      try clear c5b0
      try clear p6
      try clear c7
      try clear c7b0
      try clear c8
      try clear c8b0
      try clear c9
      try clear c9b0
      try clear c10
      try clear c10b0
      try clear hcz11_0
      try clear hcz11_1
      try clear hcz11_2
      try clear hcz12_0
      try clear hcz12_1
      try clear hcz12_2
      try clear hcz13_0
      try clear hcz13_1
      try clear hcz13_2
      try clear hcz4_0
      try clear hcz4_1
      try clear hcz4_2
      try clear hfz11_0
      try clear hfz11_1
      try clear hfz11_2
      try clear hfz12_0
      try clear hfz12_1
      try clear hfz12_2
      try clear hfz13_0
      try clear hfz13_1
      try clear hfz13_2
      try clear hfz4_0
      try clear hfz4_1
      try clear hfz4_2
      try clear hx226_0
      try clear hx227_0
      try clear p2
      try clear p226
      try clear p227
      try clear q226
      try clear q227
      obtain ⟨x40_2, rfl, HA, HK2, BK225, HB⟩ := hrel
      cases gk with
      | zero => exact absurd HA.out (by simp [roads_Check.l1])
      | succ k2 =>
       have H := HA.out; clear HA
       simp only [roads_Check.l1] at H
       by_cases c14 : x40_2 < (l0_2.length : Int)
       ·rw [if_pos c14] at H
        have c14b0 : decide (x40_2 < (l0_2.length : Int)) = true := decide_eq_true c14
        clear c14
        by_cases c15 : 0 ≤ x40_2
        ·rw [if_pos c15] at H
         have c15b0 : decide (0 ≤ x40_2) = true := decide_eq_true c15
         clear c15
         by_cases c16 : x40_2 < (l0_2.length : Int)
         ·rw [if_pos c16] at H
          have c16b0 : decide (x40_2 < (l0_2.length : Int)) = true := decide_eq_true c16
          clear c16; have HC17 := Aside0.mk H; clear H
          have p228 : 0 ≤ (x40_2 : Int) := odt
          have q228 : x40_2 < (l0_2.length : Int) := odt
          obtain ⟨ad228, A228_5, c228_5, e228, hx228_0, hx228_1, hx228_2, hx228_3, hx228_4, hx228_5, hx228_6, hx228_7, hl228_5, hi228_5⟩ := at_T58 HR0_2.out x40_2 p228 q228
          cases e228
          replace hx228_0 := (HB.out.cell (World.block_lt_of_cell? w _ hx228_0)).trans hx228_0
          replace hx228_1 := (HB.out.cell (World.block_lt_of_cell? w _ hx228_1)).trans hx228_1
          replace hx228_2 := (HB.out.cell (World.block_lt_of_cell? w _ hx228_2)).trans hx228_2
          replace hx228_3 := (HB.out.cell (World.block_lt_of_cell? w _ hx228_3)).trans hx228_3
          replace hx228_4 := (HB.out.cell (World.block_lt_of_cell? w _ hx228_4)).trans hx228_4
          replace hx228_5 := (HB.out.cell (World.block_lt_of_cell? w _ hx228_5)).trans hx228_5
          replace hx228_6 := (HB.out.cell (World.block_lt_of_cell? w _ hx228_6)).trans hx228_6
          replace hx228_7 := (HB.out.cell (World.block_lt_of_cell? w _ hx228_7)).trans hx228_7
          have HR228_5 := Aside0.mk hi228_5; have HC228_5 := Aside0.mk hl228_5; clear hi228_5 hl228_5; replace p228 := eq_true p228; replace q228 := eq_true q228
          go_upto_region 12 with (first | ((with_reducible refine gate_dst (N := 6) rfl ?_); refine box_event ?hg (N := 6) ?hd (cs := #[.int .i64 0, .int .i64 0, .int .i64 0, .int .i64 0, .int .i64 0, .slice none 0 0, .int .i64 0, .int .i64 0]) (t := 58) ?hr ?_; (case hd => rfl); (case hg => rfl); (case hr => first | (go_simp; done) | (go_simp; rfl)); intro gb229 hg w18 hbox hb; have n0_ := Aside0.mk (blk_below (g := gb225) (o := .cells #[.slice A0_0 l0_0.length c0_0, .slice A0_1 l0_1.length c0_1, .slice (some ad228) l0_2.length c0_2] 37 (0, 0)) (byK BK225.out) hb); have n1_ := Aside0.mk (below_step (byB1 HB.out GE225.out) hb); have n2_ := Aside0.mk (hbox); have n3_ := Aside0.mk ((by rw [hg]; exact (below_size (byB1 HB.out GE225.out)) : w.heap.size ≤ gb229)); have n4_ := Aside0.mk ((by rw [hg]; exact (below_size (byB1 HB.out GE225.out)) : w.heap.size ≤ gb229)); have n5_ := Aside0.mk ((by rw [hg]; exact Nat.ne_of_lt (blk_lt (g := gb225) (o := .cells #[.slice A0_0 l0_0.length c0_0, .slice A0_1 l0_1.length c0_1, .slice (some ad228) l0_2.length c0_2] 37 (0, 0)) (byK BK225.out)) : gb225 ≠ gb229)); have n6_ := Aside0.mk ((by rw [hg]; exact Nat.ne_of_gt (blk_lt (g := gb225) (o := .cells #[.slice A0_0 l0_0.length c0_0, .slice A0_1 l0_1.length c0_1, .slice (some ad228) l0_2.length c0_2] 37 (0, 0)) (byK BK225.out)) : gb229 ≠ gb225)); clear BK225 HB; have BK225 := n0_; have HB := n1_; have BK229 := n2_; have GW229 := n3_; have GE229 := n4_; have NB225_229 := n5_; have NB229_225 := n6_; clear n0_ n1_ n2_ n3_ n4_ n5_ n6_ hb hbox hg; have hnb19 := NB229_225.out; have hnc19 := NB225_229.out; have hcz20_0 : w18.cell? ⟨gb229, 0, none⟩ = some (.int .i64 0) := (blk_cell BK229.out 0).trans rfl; have hcz20_1 : w18.cell? ⟨gb229, 1, none⟩ = some (.int .i64 0) := (blk_cell BK229.out 1).trans rfl; have hcz20_2 : w18.cell? ⟨gb229, 2, none⟩ = some (.int .i64 0) := (blk_cell BK229.out 2).trans rfl; have hcz20_3 : w18.cell? ⟨gb229, 3, none⟩ = some (.int .i64 0) := (blk_cell BK229.out 3).trans rfl; have hcz20_4 : w18.cell? ⟨gb229, 4, none⟩ = some (.int .i64 0) := (blk_cell BK229.out 4).trans rfl; have hcz20_5 : w18.cell? ⟨gb229, 5, none⟩ = some (.slice none 0 0) := (blk_cell BK229.out 5).trans rfl; have hcz20_6 : w18.cell? ⟨gb229, 6, none⟩ = some (.int .i64 0) := (blk_cell BK229.out 6).trans rfl; have hcz20_7 : w18.cell? ⟨gb229, 7, none⟩ = some (.int .i64 0) := (blk_cell BK229.out 7).trans rfl; have hfz20_0 := blk_frozen BK229.out 0; have hfz20_1 := blk_frozen BK229.out 1; have hfz20_2 := blk_frozen BK229.out 2; have hfz20_3 := blk_frozen BK229.out 3; have hfz20_4 := blk_frozen BK229.out 4; have hfz20_5 := blk_frozen BK229.out 5; have hfz20_6 := blk_frozen BK229.out 6; have hfz20_7 := blk_frozen BK229.out 7))
          repeat (go_quiet (first | ((with_reducible refine gate_dst (N := 6) rfl ?_); refine box_event ?hg (N := 6) ?hd (cs := #[.int .i64 0, .int .i64 0, .int .i64 0, .int .i64 0, .int .i64 0, .slice none 0 0, .int .i64 0, .int .i64 0]) (t := 58) ?hr ?_; (case hd => rfl); (case hg => rfl); (case hr => first | (go_simp; done) | (go_simp; rfl)); intro gb229 hg w18 hbox hb; have n0_ := Aside0.mk (blk_below (g := gb225) (o := .cells #[.slice A0_0 l0_0.length c0_0, .slice A0_1 l0_1.length c0_1, .slice (some ad228) l0_2.length c0_2] 37 (0, 0)) (byK BK225.out) hb); have n1_ := Aside0.mk (below_step (byB1 HB.out GE225.out) hb); have n2_ := Aside0.mk (hbox); have n3_ := Aside0.mk ((by rw [hg]; exact (below_size (byB1 HB.out GE225.out)) : w.heap.size ≤ gb229)); have n4_ := Aside0.mk ((by rw [hg]; exact (below_size (byB1 HB.out GE225.out)) : w.heap.size ≤ gb229)); have n5_ := Aside0.mk ((by rw [hg]; exact Nat.ne_of_lt (blk_lt (g := gb225) (o := .cells #[.slice A0_0 l0_0.length c0_0, .slice A0_1 l0_1.length c0_1, .slice (some ad228) l0_2.length c0_2] 37 (0, 0)) (byK BK225.out)) : gb225 ≠ gb229)); have n6_ := Aside0.mk ((by rw [hg]; exact Nat.ne_of_gt (blk_lt (g := gb225) (o := .cells #[.slice A0_0 l0_0.length c0_0, .slice A0_1 l0_1.length c0_1, .slice (some ad228) l0_2.length c0_2] 37 (0, 0)) (byK BK225.out)) : gb229 ≠ gb225)); clear BK225 HB; have BK225 := n0_; have HB := n1_; have BK229 := n2_; have GW229 := n3_; have GE229 := n4_; have NB225_229 := n5_; have NB229_225 := n6_; clear n0_ n1_ n2_ n3_ n4_ n5_ n6_ hb hbox hg; have hnb19 := NB229_225.out; have hnc19 := NB225_229.out; have hcz20_0 : w18.cell? ⟨gb229, 0, none⟩ = some (.int .i64 0) := (blk_cell BK229.out 0).trans rfl; have hcz20_1 : w18.cell? ⟨gb229, 1, none⟩ = some (.int .i64 0) := (blk_cell BK229.out 1).trans rfl; have hcz20_2 : w18.cell? ⟨gb229, 2, none⟩ = some (.int .i64 0) := (blk_cell BK229.out 2).trans rfl; have hcz20_3 : w18.cell? ⟨gb229, 3, none⟩ = some (.int .i64 0) := (blk_cell BK229.out 3).trans rfl; have hcz20_4 : w18.cell? ⟨gb229, 4, none⟩ = some (.int .i64 0) := (blk_cell BK229.out 4).trans rfl; have hcz20_5 : w18.cell? ⟨gb229, 5, none⟩ = some (.slice none 0 0) := (blk_cell BK229.out 5).trans rfl; have hcz20_6 : w18.cell? ⟨gb229, 6, none⟩ = some (.int .i64 0) := (blk_cell BK229.out 6).trans rfl; have hcz20_7 : w18.cell? ⟨gb229, 7, none⟩ = some (.int .i64 0) := (blk_cell BK229.out 7).trans rfl; have hfz20_0 := blk_frozen BK229.out 0; have hfz20_1 := blk_frozen BK229.out 1; have hfz20_2 := blk_frozen BK229.out 2; have hfz20_3 := blk_frozen BK229.out 3; have hfz20_4 := blk_frozen BK229.out 4; have hfz20_5 := blk_frozen BK229.out 5; have hfz20_6 := blk_frozen BK229.out 6; have hfz20_7 := blk_frozen BK229.out 7)); go_upto_region 12 with (first | ((with_reducible refine gate_dst (N := 6) rfl ?_); refine box_event ?hg (N := 6) ?hd (cs := #[.int .i64 0, .int .i64 0, .int .i64 0, .int .i64 0, .int .i64 0, .slice none 0 0, .int .i64 0, .int .i64 0]) (t := 58) ?hr ?_; (case hd => rfl); (case hg => rfl); (case hr => first | (go_simp; done) | (go_simp; rfl)); intro gb229 hg w18 hbox hb; have n0_ := Aside0.mk (blk_below (g := gb225) (o := .cells #[.slice A0_0 l0_0.length c0_0, .slice A0_1 l0_1.length c0_1, .slice (some ad228) l0_2.length c0_2] 37 (0, 0)) (byK BK225.out) hb); have n1_ := Aside0.mk (below_step (byB1 HB.out GE225.out) hb); have n2_ := Aside0.mk (hbox); have n3_ := Aside0.mk ((by rw [hg]; exact (below_size (byB1 HB.out GE225.out)) : w.heap.size ≤ gb229)); have n4_ := Aside0.mk ((by rw [hg]; exact (below_size (byB1 HB.out GE225.out)) : w.heap.size ≤ gb229)); have n5_ := Aside0.mk ((by rw [hg]; exact Nat.ne_of_lt (blk_lt (g := gb225) (o := .cells #[.slice A0_0 l0_0.length c0_0, .slice A0_1 l0_1.length c0_1, .slice (some ad228) l0_2.length c0_2] 37 (0, 0)) (byK BK225.out)) : gb225 ≠ gb229)); have n6_ := Aside0.mk ((by rw [hg]; exact Nat.ne_of_gt (blk_lt (g := gb225) (o := .cells #[.slice A0_0 l0_0.length c0_0, .slice A0_1 l0_1.length c0_1, .slice (some ad228) l0_2.length c0_2] 37 (0, 0)) (byK BK225.out)) : gb229 ≠ gb225)); clear BK225 HB; have BK225 := n0_; have HB := n1_; have BK229 := n2_; have GW229 := n3_; have GE229 := n4_; have NB225_229 := n5_; have NB229_225 := n6_; clear n0_ n1_ n2_ n3_ n4_ n5_ n6_ hb hbox hg; have hnb19 := NB229_225.out; have hnc19 := NB225_229.out; have hcz20_0 : w18.cell? ⟨gb229, 0, none⟩ = some (.int .i64 0) := (blk_cell BK229.out 0).trans rfl; have hcz20_1 : w18.cell? ⟨gb229, 1, none⟩ = some (.int .i64 0) := (blk_cell BK229.out 1).trans rfl; have hcz20_2 : w18.cell? ⟨gb229, 2, none⟩ = some (.int .i64 0) := (blk_cell BK229.out 2).trans rfl; have hcz20_3 : w18.cell? ⟨gb229, 3, none⟩ = some (.int .i64 0) := (blk_cell BK229.out 3).trans rfl; have hcz20_4 : w18.cell? ⟨gb229, 4, none⟩ = some (.int .i64 0) := (blk_cell BK229.out 4).trans rfl; have hcz20_5 : w18.cell? ⟨gb229, 5, none⟩ = some (.slice none 0 0) := (blk_cell BK229.out 5).trans rfl; have hcz20_6 : w18.cell? ⟨gb229, 6, none⟩ = some (.int .i64 0) := (blk_cell BK229.out 6).trans rfl; have hcz20_7 : w18.cell? ⟨gb229, 7, none⟩ = some (.int .i64 0) := (blk_cell BK229.out 7).trans rfl; have hfz20_0 := blk_frozen BK229.out 0; have hfz20_1 := blk_frozen BK229.out 1; have hfz20_2 := blk_frozen BK229.out 2; have hfz20_3 := blk_frozen BK229.out 3; have hfz20_4 := blk_frozen BK229.out 4; have hfz20_5 := blk_frozen BK229.out 5; have hfz20_6 := blk_frozen BK229.out 6; have hfz20_7 := blk_frozen BK229.out 7)))
          (try simp only [Act.put, List.setIfInBounds_toArray, List.set_cons_zero, List.set_cons_succ])
          go_cut [93] (fun v93 wc => ∃ (kq : Nat) (x93_16 : Bool), v93 = .bool x93_16 ∧ Aside0 (roads_Check.j2 kq (l0_0.length : Int) l0_2 (l0_2.length : Int) x40_2 x93_16 ((rd_T58 l0_2 x40_2).f0) ((rd_T58 l0_2 x40_2).f1) ((rd_T58 l0_2 x40_2).f2) ((rd_T58 l0_2 x40_2).f3) ((rd_T58 l0_2 x40_2).f4) ((rd_T58 l0_2 x40_2).f5.f0) ((rd_T58 l0_2 x40_2).f5.f1) ((rd_T58 l0_2 x40_2).f5.f2) = some r) ∧ Aside0 (kq ≤ k2) ∧ Aside0 (wc.heap[gb225]? = some (.cells #[(.slice A0_0 l0_0.length c0_0), (.slice A0_1 l0_1.length c0_1), (.slice (some ad228) l0_2.length c0_2)] 37 (0, 0))) ∧ Aside0 (wc.heap[gb229]? = some (.cells #[.int .i64 ((rd_T58 l0_2 x40_2).f0), .int .i64 ((rd_T58 l0_2 x40_2).f1), .int .i64 ((rd_T58 l0_2 x40_2).f2), .int .i64 ((rd_T58 l0_2 x40_2).f3), .int .i64 ((rd_T58 l0_2 x40_2).f4), (.slice A228_5 ((rd_T58 l0_2 x40_2).f5.f0).length c228_5), .int .i64 ((rd_T58 l0_2 x40_2).f5.f1), .int .i64 ((rd_T58 l0_2 x40_2).f5.f2)] 58 (0, 0))) ∧ Aside0 (Below w.heap.size w wc))
          case first =>
           have H := HC17.out; clear HC17
           by_cases c21 : ((rd_T58 l0_2 x40_2).f0) < 0
           ·rw [if_pos c21] at H
            have c21b0 : decide (((rd_T58 l0_2 x40_2).f0) < 0) = true := decide_eq_true c21
            clear c21
            (first | rw [c21b0] | (simp only [i64_w, i32_w]; rw [c21b0]) | skip)
            have H' := Aside0.mk H
            clear H; have hnb22 := NB229_225.out; have hnc22 := NB225_229.out
            have hcz23_0 : w18.cell? ⟨gb229, 0, none⟩ = some (.int .i64 0) := (blk_cell BK229.out 0).trans rfl
            have hcz23_1 : w18.cell? ⟨gb229, 1, none⟩ = some (.int .i64 0) := (blk_cell BK229.out 1).trans rfl
            have hcz23_2 : w18.cell? ⟨gb229, 2, none⟩ = some (.int .i64 0) := (blk_cell BK229.out 2).trans rfl
            have hcz23_3 : w18.cell? ⟨gb229, 3, none⟩ = some (.int .i64 0) := (blk_cell BK229.out 3).trans rfl
            have hcz23_4 : w18.cell? ⟨gb229, 4, none⟩ = some (.int .i64 0) := (blk_cell BK229.out 4).trans rfl
            have hcz23_5 : w18.cell? ⟨gb229, 5, none⟩ = some (.slice none 0 0) := (blk_cell BK229.out 5).trans rfl
            have hcz23_6 : w18.cell? ⟨gb229, 6, none⟩ = some (.int .i64 0) := (blk_cell BK229.out 6).trans rfl
            have hcz23_7 : w18.cell? ⟨gb229, 7, none⟩ = some (.int .i64 0) := (blk_cell BK229.out 7).trans rfl
            have hfz23_0 := blk_frozen BK229.out 0; have hfz23_1 := blk_frozen BK229.out 1; have hfz23_2 := blk_frozen BK229.out 2; have hfz23_3 := blk_frozen BK229.out 3; have hfz23_4 := blk_frozen BK229.out 4; have hfz23_5 := blk_frozen BK229.out 5; have hfz23_6 := blk_frozen BK229.out 6; have hfz23_7 := blk_frozen BK229.out 7
            go_wp2
            repeat (go_quiet (fail); try go_wp2)
            go_meet
            case rel => exact ⟨_, (true), byF, H', ⟨by have := HK1.out; have := HK2.out; first | omega | exact Nat.le_refl _⟩, ⟨by (with_reducible repeat (first | refine blk_drewN ?_ _ | refine blk_drew ?_ | refine blk_alloc ?_ _)); refine blk_far ?_ NB225_229.out _; (with_reducible repeat (first | refine blk_drewN ?_ _ | refine blk_drew ?_ | refine blk_alloc ?_ _)); refine blk_far ?_ NB225_229.out _; (with_reducible repeat (first | refine blk_drewN ?_ _ | refine blk_drew ?_ | refine blk_alloc ?_ _)); refine blk_far ?_ NB225_229.out _; (with_reducible repeat (first | refine blk_drewN ?_ _ | refine blk_drew ?_ | refine blk_alloc ?_ _)); refine blk_far ?_ NB225_229.out _; (with_reducible repeat (first | refine blk_drewN ?_ _ | refine blk_drew ?_ | refine blk_alloc ?_ _)); refine blk_far ?_ NB225_229.out _; (with_reducible repeat (first | refine blk_drewN ?_ _ | refine blk_drew ?_ | refine blk_alloc ?_ _)); refine blk_far ?_ NB225_229.out _; (with_reducible repeat (first | refine blk_drewN ?_ _ | refine blk_drew ?_ | refine blk_alloc ?_ _)); refine blk_far ?_ NB225_229.out _; (with_reducible repeat (first | refine blk_drewN ?_ _ | refine blk_drew ?_ | refine blk_alloc ?_ _)); refine blk_far ?_ NB225_229.out _; (with_reducible repeat (first | refine blk_drewN ?_ _ | refine blk_drew ?_ | refine blk_alloc ?_ _)); exact BK225.out⟩, ⟨by (with_reducible repeat (first | refine blk_drewN ?_ _ | refine blk_drew ?_ | refine blk_alloc ?_ _)); refine blk_put (cs := #[.int .i64 ((rd_T58 l0_2 x40_2).f0), .int .i64 ((rd_T58 l0_2 x40_2).f1), .int .i64 ((rd_T58 l0_2 x40_2).f2), .int .i64 ((rd_T58 l0_2 x40_2).f3), .int .i64 ((rd_T58 l0_2 x40_2).f4), .slice A228_5 ((rd_T58 l0_2 x40_2).f5.f0).length c228_5, .int .i64 ((rd_T58 l0_2 x40_2).f5.f1), .int .i64 0]) ?_ 7 _ rfl; (with_reducible repeat (first | refine blk_drewN ?_ _ | refine blk_drew ?_ | refine blk_alloc ?_ _)); refine blk_put (cs := #[.int .i64 ((rd_T58 l0_2 x40_2).f0), .int .i64 ((rd_T58 l0_2 x40_2).f1), .int .i64 ((rd_T58 l0_2 x40_2).f2), .int .i64 ((rd_T58 l0_2 x40_2).f3), .int .i64 ((rd_T58 l0_2 x40_2).f4), .slice A228_5 ((rd_T58 l0_2 x40_2).f5.f0).length c228_5, .int .i64 0, .int .i64 0]) ?_ 6 _ rfl; (with_reducible repeat (first | refine blk_drewN ?_ _ | refine blk_drew ?_ | refine blk_alloc ?_ _)); refine blk_put (cs := #[.int .i64 ((rd_T58 l0_2 x40_2).f0), .int .i64 ((rd_T58 l0_2 x40_2).f1), .int .i64 ((rd_T58 l0_2 x40_2).f2), .int .i64 ((rd_T58 l0_2 x40_2).f3), .int .i64 ((rd_T58 l0_2 x40_2).f4), .slice none 0 0, .int .i64 0, .int .i64 0]) ?_ 5 _ rfl; (with_reducible repeat (first | refine blk_drewN ?_ _ | refine blk_drew ?_ | refine blk_alloc ?_ _)); refine blk_put (cs := #[.int .i64 ((rd_T58 l0_2 x40_2).f0), .int .i64 ((rd_T58 l0_2 x40_2).f1), .int .i64 ((rd_T58 l0_2 x40_2).f2), .int .i64 ((rd_T58 l0_2 x40_2).f3), .int .i64 0, .slice none 0 0, .int .i64 0, .int .i64 0]) ?_ 4 _ rfl; (with_reducible repeat (first | refine blk_drewN ?_ _ | refine blk_drew ?_ | refine blk_alloc ?_ _)); refine blk_put (cs := #[.int .i64 ((rd_T58 l0_2 x40_2).f0), .int .i64 ((rd_T58 l0_2 x40_2).f1), .int .i64 ((rd_T58 l0_2 x40_2).f2), .int .i64 0, .int .i64 0, .slice none 0 0, .int .i64 0, .int .i64 0]) ?_ 3 _ rfl; (with_reducible repeat (first | refine blk_drewN ?_ _ | refine blk_drew ?_ | refine blk_alloc ?_ _)); refine blk_put (cs := #[.int .i64 ((rd_T58 l0_2 x40_2).f0), .int .i64 ((rd_T58 l0_2 x40_2).f1), .int .i64 0, .int .i64 0, .int .i64 0, .slice none 0 0, .int .i64 0, .int .i64 0]) ?_ 2 _ rfl; (with_reducible repeat (first | refine blk_drewN ?_ _ | refine blk_drew ?_ | refine blk_alloc ?_ _)); refine blk_put (cs := #[.int .i64 ((rd_T58 l0_2 x40_2).f0), .int .i64 0, .int .i64 0, .int .i64 0, .int .i64 0, .slice none 0 0, .int .i64 0, .int .i64 0]) ?_ 1 _ rfl; (with_reducible repeat (first | refine blk_drewN ?_ _ | refine blk_drew ?_ | refine blk_alloc ?_ _)); refine blk_put (cs := #[.int .i64 0, .int .i64 0, .int .i64 0, .int .i64 0, .int .i64 0, .slice none 0 0, .int .i64 0, .int .i64 0]) ?_ 0 _ rfl; (with_reducible repeat (first | refine blk_drewN ?_ _ | refine blk_drew ?_ | refine blk_alloc ?_ _)); exact BK229.out⟩, ⟨byB2 HB.out GE225.out GE229.out⟩⟩
           ·rw [if_neg c21] at H
            have c21b0 : decide (((rd_T58 l0_2 x40_2).f0) < 0) = false := decide_eq_false c21
            clear c21
            (first | rw [c21b0] | (simp only [i64_w, i32_w]; rw [c21b0]) | skip)
            by_cases c24 : ((rd_T58 l0_2 x40_2).f0) ≥ (l0_0.length : Int)
            ·rw [if_pos c24] at H
             have c24b0 : decide ((l0_0.length : Int) ≤ ((rd_T58 l0_2 x40_2).f0)) = true := decide_eq_true c24
             clear c24
             have H' := Aside0.mk H
             clear H; have hnb25 := NB229_225.out; have hnc25 := NB225_229.out
             have hcz26_0 : w18.cell? ⟨gb229, 0, none⟩ = some (.int .i64 0) := (blk_cell BK229.out 0).trans rfl
             have hcz26_1 : w18.cell? ⟨gb229, 1, none⟩ = some (.int .i64 0) := (blk_cell BK229.out 1).trans rfl
             have hcz26_2 : w18.cell? ⟨gb229, 2, none⟩ = some (.int .i64 0) := (blk_cell BK229.out 2).trans rfl
             have hcz26_3 : w18.cell? ⟨gb229, 3, none⟩ = some (.int .i64 0) := (blk_cell BK229.out 3).trans rfl
             have hcz26_4 : w18.cell? ⟨gb229, 4, none⟩ = some (.int .i64 0) := (blk_cell BK229.out 4).trans rfl
             have hcz26_5 : w18.cell? ⟨gb229, 5, none⟩ = some (.slice none 0 0) := (blk_cell BK229.out 5).trans rfl
             have hcz26_6 : w18.cell? ⟨gb229, 6, none⟩ = some (.int .i64 0) := (blk_cell BK229.out 6).trans rfl
             have hcz26_7 : w18.cell? ⟨gb229, 7, none⟩ = some (.int .i64 0) := (blk_cell BK229.out 7).trans rfl
             have hfz26_0 := blk_frozen BK229.out 0; have hfz26_1 := blk_frozen BK229.out 1; have hfz26_2 := blk_frozen BK229.out 2; have hfz26_3 := blk_frozen BK229.out 3; have hfz26_4 := blk_frozen BK229.out 4; have hfz26_5 := blk_frozen BK229.out 5; have hfz26_6 := blk_frozen BK229.out 6; have hfz26_7 := blk_frozen BK229.out 7
             go_wp2
             repeat (go_quiet (fail); try go_wp2)
             go_meet
             case rel => exact ⟨_, (true), byF, H', ⟨by have := HK1.out; have := HK2.out; first | omega | exact Nat.le_refl _⟩, ⟨by (with_reducible repeat (first | refine blk_drewN ?_ _ | refine blk_drew ?_ | refine blk_alloc ?_ _)); refine blk_far ?_ NB225_229.out _; (with_reducible repeat (first | refine blk_drewN ?_ _ | refine blk_drew ?_ | refine blk_alloc ?_ _)); refine blk_far ?_ NB225_229.out _; (with_reducible repeat (first | refine blk_drewN ?_ _ | refine blk_drew ?_ | refine blk_alloc ?_ _)); refine blk_far ?_ NB225_229.out _; (with_reducible repeat (first | refine blk_drewN ?_ _ | refine blk_drew ?_ | refine blk_alloc ?_ _)); refine blk_far ?_ NB225_229.out _; (with_reducible repeat (first | refine blk_drewN ?_ _ | refine blk_drew ?_ | refine blk_alloc ?_ _)); refine blk_far ?_ NB225_229.out _; (with_reducible repeat (first | refine blk_drewN ?_ _ | refine blk_drew ?_ | refine blk_alloc ?_ _)); refine blk_far ?_ NB225_229.out _; (with_reducible repeat (first | refine blk_drewN ?_ _ | refine blk_drew ?_ | refine blk_alloc ?_ _)); refine blk_far ?_ NB225_229.out _; (with_reducible repeat (first | refine blk_drewN ?_ _ | refine blk_drew ?_ | refine blk_alloc ?_ _)); refine blk_far ?_ NB225_229.out _; (with_reducible repeat (first | refine blk_drewN ?_ _ | refine blk_drew ?_ | refine blk_alloc ?_ _)); exact BK225.out⟩, ⟨by (with_reducible repeat (first | refine blk_drewN ?_ _ | refine blk_drew ?_ | refine blk_alloc ?_ _)); refine blk_put (cs := #[.int .i64 ((rd_T58 l0_2 x40_2).f0), .int .i64 ((rd_T58 l0_2 x40_2).f1), .int .i64 ((rd_T58 l0_2 x40_2).f2), .int .i64 ((rd_T58 l0_2 x40_2).f3), .int .i64 ((rd_T58 l0_2 x40_2).f4), .slice A228_5 ((rd_T58 l0_2 x40_2).f5.f0).length c228_5, .int .i64 ((rd_T58 l0_2 x40_2).f5.f1), .int .i64 0]) ?_ 7 _ rfl; (with_reducible repeat (first | refine blk_drewN ?_ _ | refine blk_drew ?_ | refine blk_alloc ?_ _)); refine blk_put (cs := #[.int .i64 ((rd_T58 l0_2 x40_2).f0), .int .i64 ((rd_T58 l0_2 x40_2).f1), .int .i64 ((rd_T58 l0_2 x40_2).f2), .int .i64 ((rd_T58 l0_2 x40_2).f3), .int .i64 ((rd_T58 l0_2 x40_2).f4), .slice A228_5 ((rd_T58 l0_2 x40_2).f5.f0).length c228_5, .int .i64 0, .int .i64 0]) ?_ 6 _ rfl; (with_reducible repeat (first | refine blk_drewN ?_ _ | refine blk_drew ?_ | refine blk_alloc ?_ _)); refine blk_put (cs := #[.int .i64 ((rd_T58 l0_2 x40_2).f0), .int .i64 ((rd_T58 l0_2 x40_2).f1), .int .i64 ((rd_T58 l0_2 x40_2).f2), .int .i64 ((rd_T58 l0_2 x40_2).f3), .int .i64 ((rd_T58 l0_2 x40_2).f4), .slice none 0 0, .int .i64 0, .int .i64 0]) ?_ 5 _ rfl; (with_reducible repeat (first | refine blk_drewN ?_ _ | refine blk_drew ?_ | refine blk_alloc ?_ _)); refine blk_put (cs := #[.int .i64 ((rd_T58 l0_2 x40_2).f0), .int .i64 ((rd_T58 l0_2 x40_2).f1), .int .i64 ((rd_T58 l0_2 x40_2).f2), .int .i64 ((rd_T58 l0_2 x40_2).f3), .int .i64 0, .slice none 0 0, .int .i64 0, .int .i64 0]) ?_ 4 _ rfl; (with_reducible repeat (first | refine blk_drewN ?_ _ | refine blk_drew ?_ | refine blk_alloc ?_ _)); refine blk_put (cs := #[.int .i64 ((rd_T58 l0_2 x40_2).f0), .int .i64 ((rd_T58 l0_2 x40_2).f1), .int .i64 ((rd_T58 l0_2 x40_2).f2), .int .i64 0, .int .i64 0, .slice none 0 0, .int .i64 0, .int .i64 0]) ?_ 3 _ rfl; (with_reducible repeat (first | refine blk_drewN ?_ _ | refine blk_drew ?_ | refine blk_alloc ?_ _)); refine blk_put (cs := #[.int .i64 ((rd_T58 l0_2 x40_2).f0), .int .i64 ((rd_T58 l0_2 x40_2).f1), .int .i64 0, .int .i64 0, .int .i64 0, .slice none 0 0, .int .i64 0, .int .i64 0]) ?_ 2 _ rfl; (with_reducible repeat (first | refine blk_drewN ?_ _ | refine blk_drew ?_ | refine blk_alloc ?_ _)); refine blk_put (cs := #[.int .i64 ((rd_T58 l0_2 x40_2).f0), .int .i64 0, .int .i64 0, .int .i64 0, .int .i64 0, .slice none 0 0, .int .i64 0, .int .i64 0]) ?_ 1 _ rfl; (with_reducible repeat (first | refine blk_drewN ?_ _ | refine blk_drew ?_ | refine blk_alloc ?_ _)); refine blk_put (cs := #[.int .i64 0, .int .i64 0, .int .i64 0, .int .i64 0, .int .i64 0, .slice none 0 0, .int .i64 0, .int .i64 0]) ?_ 0 _ rfl; (with_reducible repeat (first | refine blk_drewN ?_ _ | refine blk_drew ?_ | refine blk_alloc ?_ _)); exact BK229.out⟩, ⟨byB2 HB.out GE225.out GE229.out⟩⟩
            ·rw [if_neg c24] at H
             have c24b0 : decide ((l0_0.length : Int) ≤ ((rd_T58 l0_2 x40_2).f0)) = false := decide_eq_false c24
             clear c24
             by_cases c27 : ((rd_T58 l0_2 x40_2).f1) < 0
             ·rw [if_pos c27] at H
              have c27b0 : decide (((rd_T58 l0_2 x40_2).f1) < 0) = true := decide_eq_true c27
              clear c27
              have H' := Aside0.mk H
              clear H; have hnb28 := NB229_225.out; have hnc28 := NB225_229.out
              have hcz29_0 : w18.cell? ⟨gb229, 0, none⟩ = some (.int .i64 0) := (blk_cell BK229.out 0).trans rfl
              have hcz29_1 : w18.cell? ⟨gb229, 1, none⟩ = some (.int .i64 0) := (blk_cell BK229.out 1).trans rfl
              have hcz29_2 : w18.cell? ⟨gb229, 2, none⟩ = some (.int .i64 0) := (blk_cell BK229.out 2).trans rfl
              have hcz29_3 : w18.cell? ⟨gb229, 3, none⟩ = some (.int .i64 0) := (blk_cell BK229.out 3).trans rfl
              have hcz29_4 : w18.cell? ⟨gb229, 4, none⟩ = some (.int .i64 0) := (blk_cell BK229.out 4).trans rfl
              have hcz29_5 : w18.cell? ⟨gb229, 5, none⟩ = some (.slice none 0 0) := (blk_cell BK229.out 5).trans rfl
              have hcz29_6 : w18.cell? ⟨gb229, 6, none⟩ = some (.int .i64 0) := (blk_cell BK229.out 6).trans rfl
              have hcz29_7 : w18.cell? ⟨gb229, 7, none⟩ = some (.int .i64 0) := (blk_cell BK229.out 7).trans rfl
              have hfz29_0 := blk_frozen BK229.out 0; have hfz29_1 := blk_frozen BK229.out 1; have hfz29_2 := blk_frozen BK229.out 2; have hfz29_3 := blk_frozen BK229.out 3; have hfz29_4 := blk_frozen BK229.out 4; have hfz29_5 := blk_frozen BK229.out 5; have hfz29_6 := blk_frozen BK229.out 6; have hfz29_7 := blk_frozen BK229.out 7
              go_wp2
              repeat (go_quiet (fail); try go_wp2)
              go_meet
              case rel => exact ⟨_, (true), byF, H', ⟨by have := HK1.out; have := HK2.out; first | omega | exact Nat.le_refl _⟩, ⟨by (with_reducible repeat (first | refine blk_drewN ?_ _ | refine blk_drew ?_ | refine blk_alloc ?_ _)); refine blk_far ?_ NB225_229.out _; (with_reducible repeat (first | refine blk_drewN ?_ _ | refine blk_drew ?_ | refine blk_alloc ?_ _)); refine blk_far ?_ NB225_229.out _; (with_reducible repeat (first | refine blk_drewN ?_ _ | refine blk_drew ?_ | refine blk_alloc ?_ _)); refine blk_far ?_ NB225_229.out _; (with_reducible repeat (first | refine blk_drewN ?_ _ | refine blk_drew ?_ | refine blk_alloc ?_ _)); refine blk_far ?_ NB225_229.out _; (with_reducible repeat (first | refine blk_drewN ?_ _ | refine blk_drew ?_ | refine blk_alloc ?_ _)); refine blk_far ?_ NB225_229.out _; (with_reducible repeat (first | refine blk_drewN ?_ _ | refine blk_drew ?_ | refine blk_alloc ?_ _)); refine blk_far ?_ NB225_229.out _; (with_reducible repeat (first | refine blk_drewN ?_ _ | refine blk_drew ?_ | refine blk_alloc ?_ _)); refine blk_far ?_ NB225_229.out _; (with_reducible repeat (first | refine blk_drewN ?_ _ | refine blk_drew ?_ | refine blk_alloc ?_ _)); refine blk_far ?_ NB225_229.out _; (with_reducible repeat (first | refine blk_drewN ?_ _ | refine blk_drew ?_ | refine blk_alloc ?_ _)); exact BK225.out⟩, ⟨by (with_reducible repeat (first | refine blk_drewN ?_ _ | refine blk_drew ?_ | refine blk_alloc ?_ _)); refine blk_put (cs := #[.int .i64 ((rd_T58 l0_2 x40_2).f0), .int .i64 ((rd_T58 l0_2 x40_2).f1), .int .i64 ((rd_T58 l0_2 x40_2).f2), .int .i64 ((rd_T58 l0_2 x40_2).f3), .int .i64 ((rd_T58 l0_2 x40_2).f4), .slice A228_5 ((rd_T58 l0_2 x40_2).f5.f0).length c228_5, .int .i64 ((rd_T58 l0_2 x40_2).f5.f1), .int .i64 0]) ?_ 7 _ rfl; (with_reducible repeat (first | refine blk_drewN ?_ _ | refine blk_drew ?_ | refine blk_alloc ?_ _)); refine blk_put (cs := #[.int .i64 ((rd_T58 l0_2 x40_2).f0), .int .i64 ((rd_T58 l0_2 x40_2).f1), .int .i64 ((rd_T58 l0_2 x40_2).f2), .int .i64 ((rd_T58 l0_2 x40_2).f3), .int .i64 ((rd_T58 l0_2 x40_2).f4), .slice A228_5 ((rd_T58 l0_2 x40_2).f5.f0).length c228_5, .int .i64 0, .int .i64 0]) ?_ 6 _ rfl; (with_reducible repeat (first | refine blk_drewN ?_ _ | refine blk_drew ?_ | refine blk_alloc ?_ _)); refine blk_put (cs := #[.int .i64 ((rd_T58 l0_2 x40_2).f0), .int .i64 ((rd_T58 l0_2 x40_2).f1), .int .i64 ((rd_T58 l0_2 x40_2).f2), .int .i64 ((rd_T58 l0_2 x40_2).f3), .int .i64 ((rd_T58 l0_2 x40_2).f4), .slice none 0 0, .int .i64 0, .int .i64 0]) ?_ 5 _ rfl; (with_reducible repeat (first | refine blk_drewN ?_ _ | refine blk_drew ?_ | refine blk_alloc ?_ _)); refine blk_put (cs := #[.int .i64 ((rd_T58 l0_2 x40_2).f0), .int .i64 ((rd_T58 l0_2 x40_2).f1), .int .i64 ((rd_T58 l0_2 x40_2).f2), .int .i64 ((rd_T58 l0_2 x40_2).f3), .int .i64 0, .slice none 0 0, .int .i64 0, .int .i64 0]) ?_ 4 _ rfl; (with_reducible repeat (first | refine blk_drewN ?_ _ | refine blk_drew ?_ | refine blk_alloc ?_ _)); refine blk_put (cs := #[.int .i64 ((rd_T58 l0_2 x40_2).f0), .int .i64 ((rd_T58 l0_2 x40_2).f1), .int .i64 ((rd_T58 l0_2 x40_2).f2), .int .i64 0, .int .i64 0, .slice none 0 0, .int .i64 0, .int .i64 0]) ?_ 3 _ rfl; (with_reducible repeat (first | refine blk_drewN ?_ _ | refine blk_drew ?_ | refine blk_alloc ?_ _)); refine blk_put (cs := #[.int .i64 ((rd_T58 l0_2 x40_2).f0), .int .i64 ((rd_T58 l0_2 x40_2).f1), .int .i64 0, .int .i64 0, .int .i64 0, .slice none 0 0, .int .i64 0, .int .i64 0]) ?_ 2 _ rfl; (with_reducible repeat (first | refine blk_drewN ?_ _ | refine blk_drew ?_ | refine blk_alloc ?_ _)); refine blk_put (cs := #[.int .i64 ((rd_T58 l0_2 x40_2).f0), .int .i64 0, .int .i64 0, .int .i64 0, .int .i64 0, .slice none 0 0, .int .i64 0, .int .i64 0]) ?_ 1 _ rfl; (with_reducible repeat (first | refine blk_drewN ?_ _ | refine blk_drew ?_ | refine blk_alloc ?_ _)); refine blk_put (cs := #[.int .i64 0, .int .i64 0, .int .i64 0, .int .i64 0, .int .i64 0, .slice none 0 0, .int .i64 0, .int .i64 0]) ?_ 0 _ rfl; (with_reducible repeat (first | refine blk_drewN ?_ _ | refine blk_drew ?_ | refine blk_alloc ?_ _)); exact BK229.out⟩, ⟨byB2 HB.out GE225.out GE229.out⟩⟩
             ·rw [if_neg c27] at H
              have c27b0 : decide (((rd_T58 l0_2 x40_2).f1) < 0) = false := decide_eq_false c27
              clear c27
              by_cases c30 : ((rd_T58 l0_2 x40_2).f1) ≥ (l0_0.length : Int)
              ·rw [if_pos c30] at H
               have c30b0 : decide ((l0_0.length : Int) ≤ ((rd_T58 l0_2 x40_2).f1)) = true := decide_eq_true c30
               clear c30
               have H' := Aside0.mk H
               clear H; have hnb31 := NB229_225.out; have hnc31 := NB225_229.out
               have hcz32_0 : w18.cell? ⟨gb229, 0, none⟩ = some (.int .i64 0) := (blk_cell BK229.out 0).trans rfl
               have hcz32_1 : w18.cell? ⟨gb229, 1, none⟩ = some (.int .i64 0) := (blk_cell BK229.out 1).trans rfl
               have hcz32_2 : w18.cell? ⟨gb229, 2, none⟩ = some (.int .i64 0) := (blk_cell BK229.out 2).trans rfl
               have hcz32_3 : w18.cell? ⟨gb229, 3, none⟩ = some (.int .i64 0) := (blk_cell BK229.out 3).trans rfl
               have hcz32_4 : w18.cell? ⟨gb229, 4, none⟩ = some (.int .i64 0) := (blk_cell BK229.out 4).trans rfl
               have hcz32_5 : w18.cell? ⟨gb229, 5, none⟩ = some (.slice none 0 0) := (blk_cell BK229.out 5).trans rfl
               have hcz32_6 : w18.cell? ⟨gb229, 6, none⟩ = some (.int .i64 0) := (blk_cell BK229.out 6).trans rfl
               have hcz32_7 : w18.cell? ⟨gb229, 7, none⟩ = some (.int .i64 0) := (blk_cell BK229.out 7).trans rfl
               have hfz32_0 := blk_frozen BK229.out 0; have hfz32_1 := blk_frozen BK229.out 1; have hfz32_2 := blk_frozen BK229.out 2; have hfz32_3 := blk_frozen BK229.out 3; have hfz32_4 := blk_frozen BK229.out 4; have hfz32_5 := blk_frozen BK229.out 5; have hfz32_6 := blk_frozen BK229.out 6; have hfz32_7 := blk_frozen BK229.out 7
               go_wp2
               repeat (go_quiet (fail); try go_wp2)
               go_meet
               case rel => exact ⟨_, (true), byF, H', ⟨by have := HK1.out; have := HK2.out; first | omega | exact Nat.le_refl _⟩, ⟨by (with_reducible repeat (first | refine blk_drewN ?_ _ | refine blk_drew ?_ | refine blk_alloc ?_ _)); refine blk_far ?_ NB225_229.out _; (with_reducible repeat (first | refine blk_drewN ?_ _ | refine blk_drew ?_ | refine blk_alloc ?_ _)); refine blk_far ?_ NB225_229.out _; (with_reducible repeat (first | refine blk_drewN ?_ _ | refine blk_drew ?_ | refine blk_alloc ?_ _)); refine blk_far ?_ NB225_229.out _; (with_reducible repeat (first | refine blk_drewN ?_ _ | refine blk_drew ?_ | refine blk_alloc ?_ _)); refine blk_far ?_ NB225_229.out _; (with_reducible repeat (first | refine blk_drewN ?_ _ | refine blk_drew ?_ | refine blk_alloc ?_ _)); refine blk_far ?_ NB225_229.out _; (with_reducible repeat (first | refine blk_drewN ?_ _ | refine blk_drew ?_ | refine blk_alloc ?_ _)); refine blk_far ?_ NB225_229.out _; (with_reducible repeat (first | refine blk_drewN ?_ _ | refine blk_drew ?_ | refine blk_alloc ?_ _)); refine blk_far ?_ NB225_229.out _; (with_reducible repeat (first | refine blk_drewN ?_ _ | refine blk_drew ?_ | refine blk_alloc ?_ _)); refine blk_far ?_ NB225_229.out _; (with_reducible repeat (first | refine blk_drewN ?_ _ | refine blk_drew ?_ | refine blk_alloc ?_ _)); exact BK225.out⟩, ⟨by (with_reducible repeat (first | refine blk_drewN ?_ _ | refine blk_drew ?_ | refine blk_alloc ?_ _)); refine blk_put (cs := #[.int .i64 ((rd_T58 l0_2 x40_2).f0), .int .i64 ((rd_T58 l0_2 x40_2).f1), .int .i64 ((rd_T58 l0_2 x40_2).f2), .int .i64 ((rd_T58 l0_2 x40_2).f3), .int .i64 ((rd_T58 l0_2 x40_2).f4), .slice A228_5 ((rd_T58 l0_2 x40_2).f5.f0).length c228_5, .int .i64 ((rd_T58 l0_2 x40_2).f5.f1), .int .i64 0]) ?_ 7 _ rfl; (with_reducible repeat (first | refine blk_drewN ?_ _ | refine blk_drew ?_ | refine blk_alloc ?_ _)); refine blk_put (cs := #[.int .i64 ((rd_T58 l0_2 x40_2).f0), .int .i64 ((rd_T58 l0_2 x40_2).f1), .int .i64 ((rd_T58 l0_2 x40_2).f2), .int .i64 ((rd_T58 l0_2 x40_2).f3), .int .i64 ((rd_T58 l0_2 x40_2).f4), .slice A228_5 ((rd_T58 l0_2 x40_2).f5.f0).length c228_5, .int .i64 0, .int .i64 0]) ?_ 6 _ rfl; (with_reducible repeat (first | refine blk_drewN ?_ _ | refine blk_drew ?_ | refine blk_alloc ?_ _)); refine blk_put (cs := #[.int .i64 ((rd_T58 l0_2 x40_2).f0), .int .i64 ((rd_T58 l0_2 x40_2).f1), .int .i64 ((rd_T58 l0_2 x40_2).f2), .int .i64 ((rd_T58 l0_2 x40_2).f3), .int .i64 ((rd_T58 l0_2 x40_2).f4), .slice none 0 0, .int .i64 0, .int .i64 0]) ?_ 5 _ rfl; (with_reducible repeat (first | refine blk_drewN ?_ _ | refine blk_drew ?_ | refine blk_alloc ?_ _)); refine blk_put (cs := #[.int .i64 ((rd_T58 l0_2 x40_2).f0), .int .i64 ((rd_T58 l0_2 x40_2).f1), .int .i64 ((rd_T58 l0_2 x40_2).f2), .int .i64 ((rd_T58 l0_2 x40_2).f3), .int .i64 0, .slice none 0 0, .int .i64 0, .int .i64 0]) ?_ 4 _ rfl; (with_reducible repeat (first | refine blk_drewN ?_ _ | refine blk_drew ?_ | refine blk_alloc ?_ _)); refine blk_put (cs := #[.int .i64 ((rd_T58 l0_2 x40_2).f0), .int .i64 ((rd_T58 l0_2 x40_2).f1), .int .i64 ((rd_T58 l0_2 x40_2).f2), .int .i64 0, .int .i64 0, .slice none 0 0, .int .i64 0, .int .i64 0]) ?_ 3 _ rfl; (with_reducible repeat (first | refine blk_drewN ?_ _ | refine blk_drew ?_ | refine blk_alloc ?_ _)); refine blk_put (cs := #[.int .i64 ((rd_T58 l0_2 x40_2).f0), .int .i64 ((rd_T58 l0_2 x40_2).f1), .int .i64 0, .int .i64 0, .int .i64 0, .slice none 0 0, .int .i64 0, .int .i64 0]) ?_ 2 _ rfl; (with_reducible repeat (first | refine blk_drewN ?_ _ | refine blk_drew ?_ | refine blk_alloc ?_ _)); refine blk_put (cs := #[.int .i64 ((rd_T58 l0_2 x40_2).f0), .int .i64 0, .int .i64 0, .int .i64 0, .int .i64 0, .slice none 0 0, .int .i64 0, .int .i64 0]) ?_ 1 _ rfl; (with_reducible repeat (first | refine blk_drewN ?_ _ | refine blk_drew ?_ | refine blk_alloc ?_ _)); refine blk_put (cs := #[.int .i64 0, .int .i64 0, .int .i64 0, .int .i64 0, .int .i64 0, .slice none 0 0, .int .i64 0, .int .i64 0]) ?_ 0 _ rfl; (with_reducible repeat (first | refine blk_drewN ?_ _ | refine blk_drew ?_ | refine blk_alloc ?_ _)); exact BK229.out⟩, ⟨byB2 HB.out GE225.out GE229.out⟩⟩
              ·rw [if_neg c30] at H
               have c30b0 : decide ((l0_0.length : Int) ≤ ((rd_T58 l0_2 x40_2).f1)) = false := decide_eq_false c30
               clear c30
               by_cases c33 : ((rd_T58 l0_2 x40_2).f2) < 1
               ·rw [if_pos c33] at H
                have c33b0 : decide (((rd_T58 l0_2 x40_2).f2) < 1) = true := decide_eq_true c33
                clear c33
                have H' := Aside0.mk H
                clear H; have hnb34 := NB229_225.out; have hnc34 := NB225_229.out
                have hcz35_0 : w18.cell? ⟨gb229, 0, none⟩ = some (.int .i64 0) := (blk_cell BK229.out 0).trans rfl
                have hcz35_1 : w18.cell? ⟨gb229, 1, none⟩ = some (.int .i64 0) := (blk_cell BK229.out 1).trans rfl
                have hcz35_2 : w18.cell? ⟨gb229, 2, none⟩ = some (.int .i64 0) := (blk_cell BK229.out 2).trans rfl
                have hcz35_3 : w18.cell? ⟨gb229, 3, none⟩ = some (.int .i64 0) := (blk_cell BK229.out 3).trans rfl
                have hcz35_4 : w18.cell? ⟨gb229, 4, none⟩ = some (.int .i64 0) := (blk_cell BK229.out 4).trans rfl
                have hcz35_5 : w18.cell? ⟨gb229, 5, none⟩ = some (.slice none 0 0) := (blk_cell BK229.out 5).trans rfl
                have hcz35_6 : w18.cell? ⟨gb229, 6, none⟩ = some (.int .i64 0) := (blk_cell BK229.out 6).trans rfl
                have hcz35_7 : w18.cell? ⟨gb229, 7, none⟩ = some (.int .i64 0) := (blk_cell BK229.out 7).trans rfl
                have hfz35_0 := blk_frozen BK229.out 0; have hfz35_1 := blk_frozen BK229.out 1; have hfz35_2 := blk_frozen BK229.out 2; have hfz35_3 := blk_frozen BK229.out 3; have hfz35_4 := blk_frozen BK229.out 4; have hfz35_5 := blk_frozen BK229.out 5; have hfz35_6 := blk_frozen BK229.out 6; have hfz35_7 := blk_frozen BK229.out 7
                go_wp2
                repeat (go_quiet (fail); try go_wp2)
                go_meet
                case rel => exact ⟨_, (true), byF, H', ⟨by have := HK1.out; have := HK2.out; first | omega | exact Nat.le_refl _⟩, ⟨by (with_reducible repeat (first | refine blk_drewN ?_ _ | refine blk_drew ?_ | refine blk_alloc ?_ _)); refine blk_far ?_ NB225_229.out _; (with_reducible repeat (first | refine blk_drewN ?_ _ | refine blk_drew ?_ | refine blk_alloc ?_ _)); refine blk_far ?_ NB225_229.out _; (with_reducible repeat (first | refine blk_drewN ?_ _ | refine blk_drew ?_ | refine blk_alloc ?_ _)); refine blk_far ?_ NB225_229.out _; (with_reducible repeat (first | refine blk_drewN ?_ _ | refine blk_drew ?_ | refine blk_alloc ?_ _)); refine blk_far ?_ NB225_229.out _; (with_reducible repeat (first | refine blk_drewN ?_ _ | refine blk_drew ?_ | refine blk_alloc ?_ _)); refine blk_far ?_ NB225_229.out _; (with_reducible repeat (first | refine blk_drewN ?_ _ | refine blk_drew ?_ | refine blk_alloc ?_ _)); refine blk_far ?_ NB225_229.out _; (with_reducible repeat (first | refine blk_drewN ?_ _ | refine blk_drew ?_ | refine blk_alloc ?_ _)); refine blk_far ?_ NB225_229.out _; (with_reducible repeat (first | refine blk_drewN ?_ _ | refine blk_drew ?_ | refine blk_alloc ?_ _)); refine blk_far ?_ NB225_229.out _; (with_reducible repeat (first | refine blk_drewN ?_ _ | refine blk_drew ?_ | refine blk_alloc ?_ _)); exact BK225.out⟩, ⟨by (with_reducible repeat (first | refine blk_drewN ?_ _ | refine blk_drew ?_ | refine blk_alloc ?_ _)); refine blk_put (cs := #[.int .i64 ((rd_T58 l0_2 x40_2).f0), .int .i64 ((rd_T58 l0_2 x40_2).f1), .int .i64 ((rd_T58 l0_2 x40_2).f2), .int .i64 ((rd_T58 l0_2 x40_2).f3), .int .i64 ((rd_T58 l0_2 x40_2).f4), .slice A228_5 ((rd_T58 l0_2 x40_2).f5.f0).length c228_5, .int .i64 ((rd_T58 l0_2 x40_2).f5.f1), .int .i64 0]) ?_ 7 _ rfl; (with_reducible repeat (first | refine blk_drewN ?_ _ | refine blk_drew ?_ | refine blk_alloc ?_ _)); refine blk_put (cs := #[.int .i64 ((rd_T58 l0_2 x40_2).f0), .int .i64 ((rd_T58 l0_2 x40_2).f1), .int .i64 ((rd_T58 l0_2 x40_2).f2), .int .i64 ((rd_T58 l0_2 x40_2).f3), .int .i64 ((rd_T58 l0_2 x40_2).f4), .slice A228_5 ((rd_T58 l0_2 x40_2).f5.f0).length c228_5, .int .i64 0, .int .i64 0]) ?_ 6 _ rfl; (with_reducible repeat (first | refine blk_drewN ?_ _ | refine blk_drew ?_ | refine blk_alloc ?_ _)); refine blk_put (cs := #[.int .i64 ((rd_T58 l0_2 x40_2).f0), .int .i64 ((rd_T58 l0_2 x40_2).f1), .int .i64 ((rd_T58 l0_2 x40_2).f2), .int .i64 ((rd_T58 l0_2 x40_2).f3), .int .i64 ((rd_T58 l0_2 x40_2).f4), .slice none 0 0, .int .i64 0, .int .i64 0]) ?_ 5 _ rfl; (with_reducible repeat (first | refine blk_drewN ?_ _ | refine blk_drew ?_ | refine blk_alloc ?_ _)); refine blk_put (cs := #[.int .i64 ((rd_T58 l0_2 x40_2).f0), .int .i64 ((rd_T58 l0_2 x40_2).f1), .int .i64 ((rd_T58 l0_2 x40_2).f2), .int .i64 ((rd_T58 l0_2 x40_2).f3), .int .i64 0, .slice none 0 0, .int .i64 0, .int .i64 0]) ?_ 4 _ rfl; (with_reducible repeat (first | refine blk_drewN ?_ _ | refine blk_drew ?_ | refine blk_alloc ?_ _)); refine blk_put (cs := #[.int .i64 ((rd_T58 l0_2 x40_2).f0), .int .i64 ((rd_T58 l0_2 x40_2).f1), .int .i64 ((rd_T58 l0_2 x40_2).f2), .int .i64 0, .int .i64 0, .slice none 0 0, .int .i64 0, .int .i64 0]) ?_ 3 _ rfl; (with_reducible repeat (first | refine blk_drewN ?_ _ | refine blk_drew ?_ | refine blk_alloc ?_ _)); refine blk_put (cs := #[.int .i64 ((rd_T58 l0_2 x40_2).f0), .int .i64 ((rd_T58 l0_2 x40_2).f1), .int .i64 0, .int .i64 0, .int .i64 0, .slice none 0 0, .int .i64 0, .int .i64 0]) ?_ 2 _ rfl; (with_reducible repeat (first | refine blk_drewN ?_ _ | refine blk_drew ?_ | refine blk_alloc ?_ _)); refine blk_put (cs := #[.int .i64 ((rd_T58 l0_2 x40_2).f0), .int .i64 0, .int .i64 0, .int .i64 0, .int .i64 0, .slice none 0 0, .int .i64 0, .int .i64 0]) ?_ 1 _ rfl; (with_reducible repeat (first | refine blk_drewN ?_ _ | refine blk_drew ?_ | refine blk_alloc ?_ _)); refine blk_put (cs := #[.int .i64 0, .int .i64 0, .int .i64 0, .int .i64 0, .int .i64 0, .slice none 0 0, .int .i64 0, .int .i64 0]) ?_ 0 _ rfl; (with_reducible repeat (first | refine blk_drewN ?_ _ | refine blk_drew ?_ | refine blk_alloc ?_ _)); exact BK229.out⟩, ⟨byB2 HB.out GE225.out GE229.out⟩⟩
               ·rw [if_neg c33] at H
                have c33b0 : decide (((rd_T58 l0_2 x40_2).f2) < 1) = false := decide_eq_false c33
                clear c33
                by_cases c36 : ((rd_T58 l0_2 x40_2).f2) > 2147483647
                ·rw [if_pos c36] at H
                 have c36b0 : decide (2147483647 < ((rd_T58 l0_2 x40_2).f2)) = true := decide_eq_true c36
                 clear c36
                 have H' := Aside0.mk H
                 clear H; have hnb37 := NB229_225.out; have hnc37 := NB225_229.out
                 have hcz38_0 : w18.cell? ⟨gb229, 0, none⟩ = some (.int .i64 0) := (blk_cell BK229.out 0).trans rfl
                 have hcz38_1 : w18.cell? ⟨gb229, 1, none⟩ = some (.int .i64 0) := (blk_cell BK229.out 1).trans rfl
                 have hcz38_2 : w18.cell? ⟨gb229, 2, none⟩ = some (.int .i64 0) := (blk_cell BK229.out 2).trans rfl
                 have hcz38_3 : w18.cell? ⟨gb229, 3, none⟩ = some (.int .i64 0) := (blk_cell BK229.out 3).trans rfl
                 have hcz38_4 : w18.cell? ⟨gb229, 4, none⟩ = some (.int .i64 0) := (blk_cell BK229.out 4).trans rfl
                 have hcz38_5 : w18.cell? ⟨gb229, 5, none⟩ = some (.slice none 0 0) := (blk_cell BK229.out 5).trans rfl
                 have hcz38_6 : w18.cell? ⟨gb229, 6, none⟩ = some (.int .i64 0) := (blk_cell BK229.out 6).trans rfl
                 have hcz38_7 : w18.cell? ⟨gb229, 7, none⟩ = some (.int .i64 0) := (blk_cell BK229.out 7).trans rfl
                 have hfz38_0 := blk_frozen BK229.out 0; have hfz38_1 := blk_frozen BK229.out 1; have hfz38_2 := blk_frozen BK229.out 2; have hfz38_3 := blk_frozen BK229.out 3; have hfz38_4 := blk_frozen BK229.out 4; have hfz38_5 := blk_frozen BK229.out 5; have hfz38_6 := blk_frozen BK229.out 6; have hfz38_7 := blk_frozen BK229.out 7
                 go_wp2
                 repeat (go_quiet (fail); try go_wp2)
                 go_meet
                 case rel => exact ⟨_, (true), byF, H', ⟨by have := HK1.out; have := HK2.out; first | omega | exact Nat.le_refl _⟩, ⟨by (with_reducible repeat (first | refine blk_drewN ?_ _ | refine blk_drew ?_ | refine blk_alloc ?_ _)); refine blk_far ?_ NB225_229.out _; (with_reducible repeat (first | refine blk_drewN ?_ _ | refine blk_drew ?_ | refine blk_alloc ?_ _)); refine blk_far ?_ NB225_229.out _; (with_reducible repeat (first | refine blk_drewN ?_ _ | refine blk_drew ?_ | refine blk_alloc ?_ _)); refine blk_far ?_ NB225_229.out _; (with_reducible repeat (first | refine blk_drewN ?_ _ | refine blk_drew ?_ | refine blk_alloc ?_ _)); refine blk_far ?_ NB225_229.out _; (with_reducible repeat (first | refine blk_drewN ?_ _ | refine blk_drew ?_ | refine blk_alloc ?_ _)); refine blk_far ?_ NB225_229.out _; (with_reducible repeat (first | refine blk_drewN ?_ _ | refine blk_drew ?_ | refine blk_alloc ?_ _)); refine blk_far ?_ NB225_229.out _; (with_reducible repeat (first | refine blk_drewN ?_ _ | refine blk_drew ?_ | refine blk_alloc ?_ _)); refine blk_far ?_ NB225_229.out _; (with_reducible repeat (first | refine blk_drewN ?_ _ | refine blk_drew ?_ | refine blk_alloc ?_ _)); refine blk_far ?_ NB225_229.out _; (with_reducible repeat (first | refine blk_drewN ?_ _ | refine blk_drew ?_ | refine blk_alloc ?_ _)); exact BK225.out⟩, ⟨by (with_reducible repeat (first | refine blk_drewN ?_ _ | refine blk_drew ?_ | refine blk_alloc ?_ _)); refine blk_put (cs := #[.int .i64 ((rd_T58 l0_2 x40_2).f0), .int .i64 ((rd_T58 l0_2 x40_2).f1), .int .i64 ((rd_T58 l0_2 x40_2).f2), .int .i64 ((rd_T58 l0_2 x40_2).f3), .int .i64 ((rd_T58 l0_2 x40_2).f4), .slice A228_5 ((rd_T58 l0_2 x40_2).f5.f0).length c228_5, .int .i64 ((rd_T58 l0_2 x40_2).f5.f1), .int .i64 0]) ?_ 7 _ rfl; (with_reducible repeat (first | refine blk_drewN ?_ _ | refine blk_drew ?_ | refine blk_alloc ?_ _)); refine blk_put (cs := #[.int .i64 ((rd_T58 l0_2 x40_2).f0), .int .i64 ((rd_T58 l0_2 x40_2).f1), .int .i64 ((rd_T58 l0_2 x40_2).f2), .int .i64 ((rd_T58 l0_2 x40_2).f3), .int .i64 ((rd_T58 l0_2 x40_2).f4), .slice A228_5 ((rd_T58 l0_2 x40_2).f5.f0).length c228_5, .int .i64 0, .int .i64 0]) ?_ 6 _ rfl; (with_reducible repeat (first | refine blk_drewN ?_ _ | refine blk_drew ?_ | refine blk_alloc ?_ _)); refine blk_put (cs := #[.int .i64 ((rd_T58 l0_2 x40_2).f0), .int .i64 ((rd_T58 l0_2 x40_2).f1), .int .i64 ((rd_T58 l0_2 x40_2).f2), .int .i64 ((rd_T58 l0_2 x40_2).f3), .int .i64 ((rd_T58 l0_2 x40_2).f4), .slice none 0 0, .int .i64 0, .int .i64 0]) ?_ 5 _ rfl; (with_reducible repeat (first | refine blk_drewN ?_ _ | refine blk_drew ?_ | refine blk_alloc ?_ _)); refine blk_put (cs := #[.int .i64 ((rd_T58 l0_2 x40_2).f0), .int .i64 ((rd_T58 l0_2 x40_2).f1), .int .i64 ((rd_T58 l0_2 x40_2).f2), .int .i64 ((rd_T58 l0_2 x40_2).f3), .int .i64 0, .slice none 0 0, .int .i64 0, .int .i64 0]) ?_ 4 _ rfl; (with_reducible repeat (first | refine blk_drewN ?_ _ | refine blk_drew ?_ | refine blk_alloc ?_ _)); refine blk_put (cs := #[.int .i64 ((rd_T58 l0_2 x40_2).f0), .int .i64 ((rd_T58 l0_2 x40_2).f1), .int .i64 ((rd_T58 l0_2 x40_2).f2), .int .i64 0, .int .i64 0, .slice none 0 0, .int .i64 0, .int .i64 0]) ?_ 3 _ rfl; (with_reducible repeat (first | refine blk_drewN ?_ _ | refine blk_drew ?_ | refine blk_alloc ?_ _)); refine blk_put (cs := #[.int .i64 ((rd_T58 l0_2 x40_2).f0), .int .i64 ((rd_T58 l0_2 x40_2).f1), .int .i64 0, .int .i64 0, .int .i64 0, .slice none 0 0, .int .i64 0, .int .i64 0]) ?_ 2 _ rfl; (with_reducible repeat (first | refine blk_drewN ?_ _ | refine blk_drew ?_ | refine blk_alloc ?_ _)); refine blk_put (cs := #[.int .i64 ((rd_T58 l0_2 x40_2).f0), .int .i64 0, .int .i64 0, .int .i64 0, .int .i64 0, .slice none 0 0, .int .i64 0, .int .i64 0]) ?_ 1 _ rfl; (with_reducible repeat (first | refine blk_drewN ?_ _ | refine blk_drew ?_ | refine blk_alloc ?_ _)); refine blk_put (cs := #[.int .i64 0, .int .i64 0, .int .i64 0, .int .i64 0, .int .i64 0, .slice none 0 0, .int .i64 0, .int .i64 0]) ?_ 0 _ rfl; (with_reducible repeat (first | refine blk_drewN ?_ _ | refine blk_drew ?_ | refine blk_alloc ?_ _)); exact BK229.out⟩, ⟨byB2 HB.out GE225.out GE229.out⟩⟩
                ·rw [if_neg c36] at H
                 have c36b0 : decide (2147483647 < ((rd_T58 l0_2 x40_2).f2)) = false := decide_eq_false c36
                 clear c36
                 by_cases c39 : ((rd_T58 l0_2 x40_2).f4) < 1
                 ·rw [if_pos c39] at H
                  have c39b0 : decide (((rd_T58 l0_2 x40_2).f4) < 1) = true := decide_eq_true c39
                  clear c39
                  have H' := Aside0.mk H
                  clear H; have hnb40 := NB229_225.out; have hnc40 := NB225_229.out
                  have hcz41_0 : w18.cell? ⟨gb229, 0, none⟩ = some (.int .i64 0) := (blk_cell BK229.out 0).trans rfl
                  have hcz41_1 : w18.cell? ⟨gb229, 1, none⟩ = some (.int .i64 0) := (blk_cell BK229.out 1).trans rfl
                  have hcz41_2 : w18.cell? ⟨gb229, 2, none⟩ = some (.int .i64 0) := (blk_cell BK229.out 2).trans rfl
                  have hcz41_3 : w18.cell? ⟨gb229, 3, none⟩ = some (.int .i64 0) := (blk_cell BK229.out 3).trans rfl
                  have hcz41_4 : w18.cell? ⟨gb229, 4, none⟩ = some (.int .i64 0) := (blk_cell BK229.out 4).trans rfl
                  have hcz41_5 : w18.cell? ⟨gb229, 5, none⟩ = some (.slice none 0 0) := (blk_cell BK229.out 5).trans rfl
                  have hcz41_6 : w18.cell? ⟨gb229, 6, none⟩ = some (.int .i64 0) := (blk_cell BK229.out 6).trans rfl
                  have hcz41_7 : w18.cell? ⟨gb229, 7, none⟩ = some (.int .i64 0) := (blk_cell BK229.out 7).trans rfl
                  have hfz41_0 := blk_frozen BK229.out 0; have hfz41_1 := blk_frozen BK229.out 1; have hfz41_2 := blk_frozen BK229.out 2; have hfz41_3 := blk_frozen BK229.out 3; have hfz41_4 := blk_frozen BK229.out 4; have hfz41_5 := blk_frozen BK229.out 5; have hfz41_6 := blk_frozen BK229.out 6; have hfz41_7 := blk_frozen BK229.out 7
                  go_wp2
                  repeat (go_quiet (fail); try go_wp2)
                  go_meet
                  case rel => exact ⟨_, (true), byF, H', ⟨by have := HK1.out; have := HK2.out; first | omega | exact Nat.le_refl _⟩, ⟨by (with_reducible repeat (first | refine blk_drewN ?_ _ | refine blk_drew ?_ | refine blk_alloc ?_ _)); refine blk_far ?_ NB225_229.out _; (with_reducible repeat (first | refine blk_drewN ?_ _ | refine blk_drew ?_ | refine blk_alloc ?_ _)); refine blk_far ?_ NB225_229.out _; (with_reducible repeat (first | refine blk_drewN ?_ _ | refine blk_drew ?_ | refine blk_alloc ?_ _)); refine blk_far ?_ NB225_229.out _; (with_reducible repeat (first | refine blk_drewN ?_ _ | refine blk_drew ?_ | refine blk_alloc ?_ _)); refine blk_far ?_ NB225_229.out _; (with_reducible repeat (first | refine blk_drewN ?_ _ | refine blk_drew ?_ | refine blk_alloc ?_ _)); refine blk_far ?_ NB225_229.out _; (with_reducible repeat (first | refine blk_drewN ?_ _ | refine blk_drew ?_ | refine blk_alloc ?_ _)); refine blk_far ?_ NB225_229.out _; (with_reducible repeat (first | refine blk_drewN ?_ _ | refine blk_drew ?_ | refine blk_alloc ?_ _)); refine blk_far ?_ NB225_229.out _; (with_reducible repeat (first | refine blk_drewN ?_ _ | refine blk_drew ?_ | refine blk_alloc ?_ _)); refine blk_far ?_ NB225_229.out _; (with_reducible repeat (first | refine blk_drewN ?_ _ | refine blk_drew ?_ | refine blk_alloc ?_ _)); exact BK225.out⟩, ⟨by (with_reducible repeat (first | refine blk_drewN ?_ _ | refine blk_drew ?_ | refine blk_alloc ?_ _)); refine blk_put (cs := #[.int .i64 ((rd_T58 l0_2 x40_2).f0), .int .i64 ((rd_T58 l0_2 x40_2).f1), .int .i64 ((rd_T58 l0_2 x40_2).f2), .int .i64 ((rd_T58 l0_2 x40_2).f3), .int .i64 ((rd_T58 l0_2 x40_2).f4), .slice A228_5 ((rd_T58 l0_2 x40_2).f5.f0).length c228_5, .int .i64 ((rd_T58 l0_2 x40_2).f5.f1), .int .i64 0]) ?_ 7 _ rfl; (with_reducible repeat (first | refine blk_drewN ?_ _ | refine blk_drew ?_ | refine blk_alloc ?_ _)); refine blk_put (cs := #[.int .i64 ((rd_T58 l0_2 x40_2).f0), .int .i64 ((rd_T58 l0_2 x40_2).f1), .int .i64 ((rd_T58 l0_2 x40_2).f2), .int .i64 ((rd_T58 l0_2 x40_2).f3), .int .i64 ((rd_T58 l0_2 x40_2).f4), .slice A228_5 ((rd_T58 l0_2 x40_2).f5.f0).length c228_5, .int .i64 0, .int .i64 0]) ?_ 6 _ rfl; (with_reducible repeat (first | refine blk_drewN ?_ _ | refine blk_drew ?_ | refine blk_alloc ?_ _)); refine blk_put (cs := #[.int .i64 ((rd_T58 l0_2 x40_2).f0), .int .i64 ((rd_T58 l0_2 x40_2).f1), .int .i64 ((rd_T58 l0_2 x40_2).f2), .int .i64 ((rd_T58 l0_2 x40_2).f3), .int .i64 ((rd_T58 l0_2 x40_2).f4), .slice none 0 0, .int .i64 0, .int .i64 0]) ?_ 5 _ rfl; (with_reducible repeat (first | refine blk_drewN ?_ _ | refine blk_drew ?_ | refine blk_alloc ?_ _)); refine blk_put (cs := #[.int .i64 ((rd_T58 l0_2 x40_2).f0), .int .i64 ((rd_T58 l0_2 x40_2).f1), .int .i64 ((rd_T58 l0_2 x40_2).f2), .int .i64 ((rd_T58 l0_2 x40_2).f3), .int .i64 0, .slice none 0 0, .int .i64 0, .int .i64 0]) ?_ 4 _ rfl; (with_reducible repeat (first | refine blk_drewN ?_ _ | refine blk_drew ?_ | refine blk_alloc ?_ _)); refine blk_put (cs := #[.int .i64 ((rd_T58 l0_2 x40_2).f0), .int .i64 ((rd_T58 l0_2 x40_2).f1), .int .i64 ((rd_T58 l0_2 x40_2).f2), .int .i64 0, .int .i64 0, .slice none 0 0, .int .i64 0, .int .i64 0]) ?_ 3 _ rfl; (with_reducible repeat (first | refine blk_drewN ?_ _ | refine blk_drew ?_ | refine blk_alloc ?_ _)); refine blk_put (cs := #[.int .i64 ((rd_T58 l0_2 x40_2).f0), .int .i64 ((rd_T58 l0_2 x40_2).f1), .int .i64 0, .int .i64 0, .int .i64 0, .slice none 0 0, .int .i64 0, .int .i64 0]) ?_ 2 _ rfl; (with_reducible repeat (first | refine blk_drewN ?_ _ | refine blk_drew ?_ | refine blk_alloc ?_ _)); refine blk_put (cs := #[.int .i64 ((rd_T58 l0_2 x40_2).f0), .int .i64 0, .int .i64 0, .int .i64 0, .int .i64 0, .slice none 0 0, .int .i64 0, .int .i64 0]) ?_ 1 _ rfl; (with_reducible repeat (first | refine blk_drewN ?_ _ | refine blk_drew ?_ | refine blk_alloc ?_ _)); refine blk_put (cs := #[.int .i64 0, .int .i64 0, .int .i64 0, .int .i64 0, .int .i64 0, .slice none 0 0, .int .i64 0, .int .i64 0]) ?_ 0 _ rfl; (with_reducible repeat (first | refine blk_drewN ?_ _ | refine blk_drew ?_ | refine blk_alloc ?_ _)); exact BK229.out⟩, ⟨byB2 HB.out GE225.out GE229.out⟩⟩
                 ·rw [if_neg c39] at H
                  have c39b0 : decide (((rd_T58 l0_2 x40_2).f4) < 1) = false := decide_eq_false c39
                  clear c39
                  by_cases c42 : ((rd_T58 l0_2 x40_2).f4) > 6
                  ·rw [if_pos c42] at H
                   have c42b0 : decide (6 < ((rd_T58 l0_2 x40_2).f4)) = true := decide_eq_true c42
                   clear c42
                   have H' := Aside0.mk H
                   clear H; have hnb43 := NB229_225.out; have hnc43 := NB225_229.out
                   have hcz44_0 : w18.cell? ⟨gb229, 0, none⟩ = some (.int .i64 0) := (blk_cell BK229.out 0).trans rfl
                   have hcz44_1 : w18.cell? ⟨gb229, 1, none⟩ = some (.int .i64 0) := (blk_cell BK229.out 1).trans rfl
                   have hcz44_2 : w18.cell? ⟨gb229, 2, none⟩ = some (.int .i64 0) := (blk_cell BK229.out 2).trans rfl
                   have hcz44_3 : w18.cell? ⟨gb229, 3, none⟩ = some (.int .i64 0) := (blk_cell BK229.out 3).trans rfl
                   have hcz44_4 : w18.cell? ⟨gb229, 4, none⟩ = some (.int .i64 0) := (blk_cell BK229.out 4).trans rfl
                   have hcz44_5 : w18.cell? ⟨gb229, 5, none⟩ = some (.slice none 0 0) := (blk_cell BK229.out 5).trans rfl
                   have hcz44_6 : w18.cell? ⟨gb229, 6, none⟩ = some (.int .i64 0) := (blk_cell BK229.out 6).trans rfl
                   have hcz44_7 : w18.cell? ⟨gb229, 7, none⟩ = some (.int .i64 0) := (blk_cell BK229.out 7).trans rfl
                   have hfz44_0 := blk_frozen BK229.out 0; have hfz44_1 := blk_frozen BK229.out 1; have hfz44_2 := blk_frozen BK229.out 2; have hfz44_3 := blk_frozen BK229.out 3; have hfz44_4 := blk_frozen BK229.out 4; have hfz44_5 := blk_frozen BK229.out 5; have hfz44_6 := blk_frozen BK229.out 6; have hfz44_7 := blk_frozen BK229.out 7
                   go_wp2
                   repeat (go_quiet (fail); try go_wp2)
                   go_meet
                   case rel => exact ⟨_, (true), byF, H', ⟨by have := HK1.out; have := HK2.out; first | omega | exact Nat.le_refl _⟩, ⟨by (with_reducible repeat (first | refine blk_drewN ?_ _ | refine blk_drew ?_ | refine blk_alloc ?_ _)); refine blk_far ?_ NB225_229.out _; (with_reducible repeat (first | refine blk_drewN ?_ _ | refine blk_drew ?_ | refine blk_alloc ?_ _)); refine blk_far ?_ NB225_229.out _; (with_reducible repeat (first | refine blk_drewN ?_ _ | refine blk_drew ?_ | refine blk_alloc ?_ _)); refine blk_far ?_ NB225_229.out _; (with_reducible repeat (first | refine blk_drewN ?_ _ | refine blk_drew ?_ | refine blk_alloc ?_ _)); refine blk_far ?_ NB225_229.out _; (with_reducible repeat (first | refine blk_drewN ?_ _ | refine blk_drew ?_ | refine blk_alloc ?_ _)); refine blk_far ?_ NB225_229.out _; (with_reducible repeat (first | refine blk_drewN ?_ _ | refine blk_drew ?_ | refine blk_alloc ?_ _)); refine blk_far ?_ NB225_229.out _; (with_reducible repeat (first | refine blk_drewN ?_ _ | refine blk_drew ?_ | refine blk_alloc ?_ _)); refine blk_far ?_ NB225_229.out _; (with_reducible repeat (first | refine blk_drewN ?_ _ | refine blk_drew ?_ | refine blk_alloc ?_ _)); refine blk_far ?_ NB225_229.out _; (with_reducible repeat (first | refine blk_drewN ?_ _ | refine blk_drew ?_ | refine blk_alloc ?_ _)); exact BK225.out⟩, ⟨by (with_reducible repeat (first | refine blk_drewN ?_ _ | refine blk_drew ?_ | refine blk_alloc ?_ _)); refine blk_put (cs := #[.int .i64 ((rd_T58 l0_2 x40_2).f0), .int .i64 ((rd_T58 l0_2 x40_2).f1), .int .i64 ((rd_T58 l0_2 x40_2).f2), .int .i64 ((rd_T58 l0_2 x40_2).f3), .int .i64 ((rd_T58 l0_2 x40_2).f4), .slice A228_5 ((rd_T58 l0_2 x40_2).f5.f0).length c228_5, .int .i64 ((rd_T58 l0_2 x40_2).f5.f1), .int .i64 0]) ?_ 7 _ rfl; (with_reducible repeat (first | refine blk_drewN ?_ _ | refine blk_drew ?_ | refine blk_alloc ?_ _)); refine blk_put (cs := #[.int .i64 ((rd_T58 l0_2 x40_2).f0), .int .i64 ((rd_T58 l0_2 x40_2).f1), .int .i64 ((rd_T58 l0_2 x40_2).f2), .int .i64 ((rd_T58 l0_2 x40_2).f3), .int .i64 ((rd_T58 l0_2 x40_2).f4), .slice A228_5 ((rd_T58 l0_2 x40_2).f5.f0).length c228_5, .int .i64 0, .int .i64 0]) ?_ 6 _ rfl; (with_reducible repeat (first | refine blk_drewN ?_ _ | refine blk_drew ?_ | refine blk_alloc ?_ _)); refine blk_put (cs := #[.int .i64 ((rd_T58 l0_2 x40_2).f0), .int .i64 ((rd_T58 l0_2 x40_2).f1), .int .i64 ((rd_T58 l0_2 x40_2).f2), .int .i64 ((rd_T58 l0_2 x40_2).f3), .int .i64 ((rd_T58 l0_2 x40_2).f4), .slice none 0 0, .int .i64 0, .int .i64 0]) ?_ 5 _ rfl; (with_reducible repeat (first | refine blk_drewN ?_ _ | refine blk_drew ?_ | refine blk_alloc ?_ _)); refine blk_put (cs := #[.int .i64 ((rd_T58 l0_2 x40_2).f0), .int .i64 ((rd_T58 l0_2 x40_2).f1), .int .i64 ((rd_T58 l0_2 x40_2).f2), .int .i64 ((rd_T58 l0_2 x40_2).f3), .int .i64 0, .slice none 0 0, .int .i64 0, .int .i64 0]) ?_ 4 _ rfl; (with_reducible repeat (first | refine blk_drewN ?_ _ | refine blk_drew ?_ | refine blk_alloc ?_ _)); refine blk_put (cs := #[.int .i64 ((rd_T58 l0_2 x40_2).f0), .int .i64 ((rd_T58 l0_2 x40_2).f1), .int .i64 ((rd_T58 l0_2 x40_2).f2), .int .i64 0, .int .i64 0, .slice none 0 0, .int .i64 0, .int .i64 0]) ?_ 3 _ rfl; (with_reducible repeat (first | refine blk_drewN ?_ _ | refine blk_drew ?_ | refine blk_alloc ?_ _)); refine blk_put (cs := #[.int .i64 ((rd_T58 l0_2 x40_2).f0), .int .i64 ((rd_T58 l0_2 x40_2).f1), .int .i64 0, .int .i64 0, .int .i64 0, .slice none 0 0, .int .i64 0, .int .i64 0]) ?_ 2 _ rfl; (with_reducible repeat (first | refine blk_drewN ?_ _ | refine blk_drew ?_ | refine blk_alloc ?_ _)); refine blk_put (cs := #[.int .i64 ((rd_T58 l0_2 x40_2).f0), .int .i64 0, .int .i64 0, .int .i64 0, .int .i64 0, .slice none 0 0, .int .i64 0, .int .i64 0]) ?_ 1 _ rfl; (with_reducible repeat (first | refine blk_drewN ?_ _ | refine blk_drew ?_ | refine blk_alloc ?_ _)); refine blk_put (cs := #[.int .i64 0, .int .i64 0, .int .i64 0, .int .i64 0, .int .i64 0, .slice none 0 0, .int .i64 0, .int .i64 0]) ?_ 0 _ rfl; (with_reducible repeat (first | refine blk_drewN ?_ _ | refine blk_drew ?_ | refine blk_alloc ?_ _)); exact BK229.out⟩, ⟨byB2 HB.out GE225.out GE229.out⟩⟩
                  ·rw [if_neg c42] at H
                   have c42b0 : decide (6 < ((rd_T58 l0_2 x40_2).f4)) = false := decide_eq_false c42
                   clear c42
                   by_cases c45 : ((rd_T58 l0_2 x40_2).f3) < 0
                   ·rw [if_pos c45] at H
                    have c45b0 : decide (((rd_T58 l0_2 x40_2).f3) < 0) = true := decide_eq_true c45
                    clear c45
                    have H' := Aside0.mk H
                    clear H; have hnb46 := NB229_225.out; have hnc46 := NB225_229.out
                    have hcz47_0 : w18.cell? ⟨gb229, 0, none⟩ = some (.int .i64 0) := (blk_cell BK229.out 0).trans rfl
                    have hcz47_1 : w18.cell? ⟨gb229, 1, none⟩ = some (.int .i64 0) := (blk_cell BK229.out 1).trans rfl
                    have hcz47_2 : w18.cell? ⟨gb229, 2, none⟩ = some (.int .i64 0) := (blk_cell BK229.out 2).trans rfl
                    have hcz47_3 : w18.cell? ⟨gb229, 3, none⟩ = some (.int .i64 0) := (blk_cell BK229.out 3).trans rfl
                    have hcz47_4 : w18.cell? ⟨gb229, 4, none⟩ = some (.int .i64 0) := (blk_cell BK229.out 4).trans rfl
                    have hcz47_5 : w18.cell? ⟨gb229, 5, none⟩ = some (.slice none 0 0) := (blk_cell BK229.out 5).trans rfl
                    have hcz47_6 : w18.cell? ⟨gb229, 6, none⟩ = some (.int .i64 0) := (blk_cell BK229.out 6).trans rfl
                    have hcz47_7 : w18.cell? ⟨gb229, 7, none⟩ = some (.int .i64 0) := (blk_cell BK229.out 7).trans rfl
                    have hfz47_0 := blk_frozen BK229.out 0; have hfz47_1 := blk_frozen BK229.out 1; have hfz47_2 := blk_frozen BK229.out 2; have hfz47_3 := blk_frozen BK229.out 3; have hfz47_4 := blk_frozen BK229.out 4; have hfz47_5 := blk_frozen BK229.out 5; have hfz47_6 := blk_frozen BK229.out 6; have hfz47_7 := blk_frozen BK229.out 7
                    go_wp2
                    repeat (go_quiet (fail); try go_wp2)
                    go_meet
                    case rel => exact ⟨_, (true), byF, H', ⟨by have := HK1.out; have := HK2.out; first | omega | exact Nat.le_refl _⟩, ⟨by (with_reducible repeat (first | refine blk_drewN ?_ _ | refine blk_drew ?_ | refine blk_alloc ?_ _)); refine blk_far ?_ NB225_229.out _; (with_reducible repeat (first | refine blk_drewN ?_ _ | refine blk_drew ?_ | refine blk_alloc ?_ _)); refine blk_far ?_ NB225_229.out _; (with_reducible repeat (first | refine blk_drewN ?_ _ | refine blk_drew ?_ | refine blk_alloc ?_ _)); refine blk_far ?_ NB225_229.out _; (with_reducible repeat (first | refine blk_drewN ?_ _ | refine blk_drew ?_ | refine blk_alloc ?_ _)); refine blk_far ?_ NB225_229.out _; (with_reducible repeat (first | refine blk_drewN ?_ _ | refine blk_drew ?_ | refine blk_alloc ?_ _)); refine blk_far ?_ NB225_229.out _; (with_reducible repeat (first | refine blk_drewN ?_ _ | refine blk_drew ?_ | refine blk_alloc ?_ _)); refine blk_far ?_ NB225_229.out _; (with_reducible repeat (first | refine blk_drewN ?_ _ | refine blk_drew ?_ | refine blk_alloc ?_ _)); refine blk_far ?_ NB225_229.out _; (with_reducible repeat (first | refine blk_drewN ?_ _ | refine blk_drew ?_ | refine blk_alloc ?_ _)); refine blk_far ?_ NB225_229.out _; (with_reducible repeat (first | refine blk_drewN ?_ _ | refine blk_drew ?_ | refine blk_alloc ?_ _)); exact BK225.out⟩, ⟨by (with_reducible repeat (first | refine blk_drewN ?_ _ | refine blk_drew ?_ | refine blk_alloc ?_ _)); refine blk_put (cs := #[.int .i64 ((rd_T58 l0_2 x40_2).f0), .int .i64 ((rd_T58 l0_2 x40_2).f1), .int .i64 ((rd_T58 l0_2 x40_2).f2), .int .i64 ((rd_T58 l0_2 x40_2).f3), .int .i64 ((rd_T58 l0_2 x40_2).f4), .slice A228_5 ((rd_T58 l0_2 x40_2).f5.f0).length c228_5, .int .i64 ((rd_T58 l0_2 x40_2).f5.f1), .int .i64 0]) ?_ 7 _ rfl; (with_reducible repeat (first | refine blk_drewN ?_ _ | refine blk_drew ?_ | refine blk_alloc ?_ _)); refine blk_put (cs := #[.int .i64 ((rd_T58 l0_2 x40_2).f0), .int .i64 ((rd_T58 l0_2 x40_2).f1), .int .i64 ((rd_T58 l0_2 x40_2).f2), .int .i64 ((rd_T58 l0_2 x40_2).f3), .int .i64 ((rd_T58 l0_2 x40_2).f4), .slice A228_5 ((rd_T58 l0_2 x40_2).f5.f0).length c228_5, .int .i64 0, .int .i64 0]) ?_ 6 _ rfl; (with_reducible repeat (first | refine blk_drewN ?_ _ | refine blk_drew ?_ | refine blk_alloc ?_ _)); refine blk_put (cs := #[.int .i64 ((rd_T58 l0_2 x40_2).f0), .int .i64 ((rd_T58 l0_2 x40_2).f1), .int .i64 ((rd_T58 l0_2 x40_2).f2), .int .i64 ((rd_T58 l0_2 x40_2).f3), .int .i64 ((rd_T58 l0_2 x40_2).f4), .slice none 0 0, .int .i64 0, .int .i64 0]) ?_ 5 _ rfl; (with_reducible repeat (first | refine blk_drewN ?_ _ | refine blk_drew ?_ | refine blk_alloc ?_ _)); refine blk_put (cs := #[.int .i64 ((rd_T58 l0_2 x40_2).f0), .int .i64 ((rd_T58 l0_2 x40_2).f1), .int .i64 ((rd_T58 l0_2 x40_2).f2), .int .i64 ((rd_T58 l0_2 x40_2).f3), .int .i64 0, .slice none 0 0, .int .i64 0, .int .i64 0]) ?_ 4 _ rfl; (with_reducible repeat (first | refine blk_drewN ?_ _ | refine blk_drew ?_ | refine blk_alloc ?_ _)); refine blk_put (cs := #[.int .i64 ((rd_T58 l0_2 x40_2).f0), .int .i64 ((rd_T58 l0_2 x40_2).f1), .int .i64 ((rd_T58 l0_2 x40_2).f2), .int .i64 0, .int .i64 0, .slice none 0 0, .int .i64 0, .int .i64 0]) ?_ 3 _ rfl; (with_reducible repeat (first | refine blk_drewN ?_ _ | refine blk_drew ?_ | refine blk_alloc ?_ _)); refine blk_put (cs := #[.int .i64 ((rd_T58 l0_2 x40_2).f0), .int .i64 ((rd_T58 l0_2 x40_2).f1), .int .i64 0, .int .i64 0, .int .i64 0, .slice none 0 0, .int .i64 0, .int .i64 0]) ?_ 2 _ rfl; (with_reducible repeat (first | refine blk_drewN ?_ _ | refine blk_drew ?_ | refine blk_alloc ?_ _)); refine blk_put (cs := #[.int .i64 ((rd_T58 l0_2 x40_2).f0), .int .i64 0, .int .i64 0, .int .i64 0, .int .i64 0, .slice none 0 0, .int .i64 0, .int .i64 0]) ?_ 1 _ rfl; (with_reducible repeat (first | refine blk_drewN ?_ _ | refine blk_drew ?_ | refine blk_alloc ?_ _)); refine blk_put (cs := #[.int .i64 0, .int .i64 0, .int .i64 0, .int .i64 0, .int .i64 0, .slice none 0 0, .int .i64 0, .int .i64 0]) ?_ 0 _ rfl; (with_reducible repeat (first | refine blk_drewN ?_ _ | refine blk_drew ?_ | refine blk_alloc ?_ _)); exact BK229.out⟩, ⟨byB2 HB.out GE225.out GE229.out⟩⟩
                   ·rw [if_neg c45] at H
                    have c45b0 : decide (((rd_T58 l0_2 x40_2).f3) < 0) = false := decide_eq_false c45
                    clear c45
                    have H' := Aside0.mk H
                    clear H; have hnb48 := NB229_225.out; have hnc48 := NB225_229.out
                    have hcz49_0 : w18.cell? ⟨gb229, 0, none⟩ = some (.int .i64 0) := (blk_cell BK229.out 0).trans rfl
                    have hcz49_1 : w18.cell? ⟨gb229, 1, none⟩ = some (.int .i64 0) := (blk_cell BK229.out 1).trans rfl
                    have hcz49_2 : w18.cell? ⟨gb229, 2, none⟩ = some (.int .i64 0) := (blk_cell BK229.out 2).trans rfl
                    have hcz49_3 : w18.cell? ⟨gb229, 3, none⟩ = some (.int .i64 0) := (blk_cell BK229.out 3).trans rfl
                    have hcz49_4 : w18.cell? ⟨gb229, 4, none⟩ = some (.int .i64 0) := (blk_cell BK229.out 4).trans rfl
                    have hcz49_5 : w18.cell? ⟨gb229, 5, none⟩ = some (.slice none 0 0) := (blk_cell BK229.out 5).trans rfl
                    have hcz49_6 : w18.cell? ⟨gb229, 6, none⟩ = some (.int .i64 0) := (blk_cell BK229.out 6).trans rfl
                    have hcz49_7 : w18.cell? ⟨gb229, 7, none⟩ = some (.int .i64 0) := (blk_cell BK229.out 7).trans rfl
                    have hfz49_0 := blk_frozen BK229.out 0; have hfz49_1 := blk_frozen BK229.out 1; have hfz49_2 := blk_frozen BK229.out 2; have hfz49_3 := blk_frozen BK229.out 3; have hfz49_4 := blk_frozen BK229.out 4; have hfz49_5 := blk_frozen BK229.out 5; have hfz49_6 := blk_frozen BK229.out 6; have hfz49_7 := blk_frozen BK229.out 7
                    go_wp2
                    repeat (go_quiet (fail); try go_wp2)
                    go_meet
                    case rel => exact ⟨_, (decide (((rd_T58 l0_2 x40_2).f3) > 67108864)), byF, H', ⟨by have := HK1.out; have := HK2.out; first | omega | exact Nat.le_refl _⟩, ⟨by (with_reducible repeat (first | refine blk_drewN ?_ _ | refine blk_drew ?_ | refine blk_alloc ?_ _)); refine blk_far ?_ NB225_229.out _; (with_reducible repeat (first | refine blk_drewN ?_ _ | refine blk_drew ?_ | refine blk_alloc ?_ _)); refine blk_far ?_ NB225_229.out _; (with_reducible repeat (first | refine blk_drewN ?_ _ | refine blk_drew ?_ | refine blk_alloc ?_ _)); refine blk_far ?_ NB225_229.out _; (with_reducible repeat (first | refine blk_drewN ?_ _ | refine blk_drew ?_ | refine blk_alloc ?_ _)); refine blk_far ?_ NB225_229.out _; (with_reducible repeat (first | refine blk_drewN ?_ _ | refine blk_drew ?_ | refine blk_alloc ?_ _)); refine blk_far ?_ NB225_229.out _; (with_reducible repeat (first | refine blk_drewN ?_ _ | refine blk_drew ?_ | refine blk_alloc ?_ _)); refine blk_far ?_ NB225_229.out _; (with_reducible repeat (first | refine blk_drewN ?_ _ | refine blk_drew ?_ | refine blk_alloc ?_ _)); refine blk_far ?_ NB225_229.out _; (with_reducible repeat (first | refine blk_drewN ?_ _ | refine blk_drew ?_ | refine blk_alloc ?_ _)); refine blk_far ?_ NB225_229.out _; (with_reducible repeat (first | refine blk_drewN ?_ _ | refine blk_drew ?_ | refine blk_alloc ?_ _)); exact BK225.out⟩, ⟨by (with_reducible repeat (first | refine blk_drewN ?_ _ | refine blk_drew ?_ | refine blk_alloc ?_ _)); refine blk_put (cs := #[.int .i64 ((rd_T58 l0_2 x40_2).f0), .int .i64 ((rd_T58 l0_2 x40_2).f1), .int .i64 ((rd_T58 l0_2 x40_2).f2), .int .i64 ((rd_T58 l0_2 x40_2).f3), .int .i64 ((rd_T58 l0_2 x40_2).f4), .slice A228_5 ((rd_T58 l0_2 x40_2).f5.f0).length c228_5, .int .i64 ((rd_T58 l0_2 x40_2).f5.f1), .int .i64 0]) ?_ 7 _ rfl; (with_reducible repeat (first | refine blk_drewN ?_ _ | refine blk_drew ?_ | refine blk_alloc ?_ _)); refine blk_put (cs := #[.int .i64 ((rd_T58 l0_2 x40_2).f0), .int .i64 ((rd_T58 l0_2 x40_2).f1), .int .i64 ((rd_T58 l0_2 x40_2).f2), .int .i64 ((rd_T58 l0_2 x40_2).f3), .int .i64 ((rd_T58 l0_2 x40_2).f4), .slice A228_5 ((rd_T58 l0_2 x40_2).f5.f0).length c228_5, .int .i64 0, .int .i64 0]) ?_ 6 _ rfl; (with_reducible repeat (first | refine blk_drewN ?_ _ | refine blk_drew ?_ | refine blk_alloc ?_ _)); refine blk_put (cs := #[.int .i64 ((rd_T58 l0_2 x40_2).f0), .int .i64 ((rd_T58 l0_2 x40_2).f1), .int .i64 ((rd_T58 l0_2 x40_2).f2), .int .i64 ((rd_T58 l0_2 x40_2).f3), .int .i64 ((rd_T58 l0_2 x40_2).f4), .slice none 0 0, .int .i64 0, .int .i64 0]) ?_ 5 _ rfl; (with_reducible repeat (first | refine blk_drewN ?_ _ | refine blk_drew ?_ | refine blk_alloc ?_ _)); refine blk_put (cs := #[.int .i64 ((rd_T58 l0_2 x40_2).f0), .int .i64 ((rd_T58 l0_2 x40_2).f1), .int .i64 ((rd_T58 l0_2 x40_2).f2), .int .i64 ((rd_T58 l0_2 x40_2).f3), .int .i64 0, .slice none 0 0, .int .i64 0, .int .i64 0]) ?_ 4 _ rfl; (with_reducible repeat (first | refine blk_drewN ?_ _ | refine blk_drew ?_ | refine blk_alloc ?_ _)); refine blk_put (cs := #[.int .i64 ((rd_T58 l0_2 x40_2).f0), .int .i64 ((rd_T58 l0_2 x40_2).f1), .int .i64 ((rd_T58 l0_2 x40_2).f2), .int .i64 0, .int .i64 0, .slice none 0 0, .int .i64 0, .int .i64 0]) ?_ 3 _ rfl; (with_reducible repeat (first | refine blk_drewN ?_ _ | refine blk_drew ?_ | refine blk_alloc ?_ _)); refine blk_put (cs := #[.int .i64 ((rd_T58 l0_2 x40_2).f0), .int .i64 ((rd_T58 l0_2 x40_2).f1), .int .i64 0, .int .i64 0, .int .i64 0, .slice none 0 0, .int .i64 0, .int .i64 0]) ?_ 2 _ rfl; (with_reducible repeat (first | refine blk_drewN ?_ _ | refine blk_drew ?_ | refine blk_alloc ?_ _)); refine blk_put (cs := #[.int .i64 ((rd_T58 l0_2 x40_2).f0), .int .i64 0, .int .i64 0, .int .i64 0, .int .i64 0, .slice none 0 0, .int .i64 0, .int .i64 0]) ?_ 1 _ rfl; (with_reducible repeat (first | refine blk_drewN ?_ _ | refine blk_drew ?_ | refine blk_alloc ?_ _)); refine blk_put (cs := #[.int .i64 0, .int .i64 0, .int .i64 0, .int .i64 0, .int .i64 0, .slice none 0 0, .int .i64 0, .int .i64 0]) ?_ 0 _ rfl; (with_reducible repeat (first | refine blk_drewN ?_ _ | refine blk_drew ?_ | refine blk_alloc ?_ _)); exact BK229.out⟩, ⟨byB2 HB.out GE225.out GE229.out⟩⟩
          case rest =>
           clear HC17
           try clear c1
           try clear c2
           try clear c2b0
           try clear c2b1
           try clear c2b2
           try clear p2
           try clear q2
           try clear hx2
           try clear c3
           try clear c4
           try clear c5
           try clear c5b0
           try clear p6
           try clear c7
           try clear c7b0
           try clear c8
           try clear c8b0
           try clear c9
           try clear c9b0
           try clear c10
           try clear c10b0
           try clear c14
           try clear c14b0
           try clear c15
           try clear c15b0
           try clear c16
           try clear c16b0
           try clear c19
           try clear c21
           try clear c21b0
           try clear c22
           try clear p22
           try clear q22
           try clear hx22
           try clear c24
           try clear c24b0
           try clear c25
           try clear c27
           try clear c27b0
           try clear c28
           try clear c30
           try clear c30b0
           try clear c31
           try clear c33
           try clear c33b0
           try clear c34
           try clear c36
           try clear c36b0
           try clear c37
           try clear c39
           try clear c39b0
           try clear c40
           try clear c42
           try clear c42b0
           try clear c43
           try clear c45
           try clear c45b0
           try clear c46
           try clear c48
           try clear hcz11_0
           try clear hcz11_1
           try clear hcz11_2
           try clear hcz12_0
           try clear hcz12_1
           try clear hcz12_2
           try clear hcz13_0
           try clear hcz13_1
           try clear hcz13_2
           try clear hcz20_0
           try clear hcz20_1
           try clear hcz20_2
           try clear hcz20_3
           try clear hcz20_4
           try clear hcz20_5
           try clear hcz20_6
           try clear hcz20_7
           try clear hcz23_0
           try clear hcz23_1
           try clear hcz23_2
           try clear hcz23_3
           try clear hcz23_4
           try clear hcz23_5
           try clear hcz23_6
           try clear hcz23_7
           try clear hcz26_0
           try clear hcz26_1
           try clear hcz26_2
           try clear hcz26_3
           try clear hcz26_4
           try clear hcz26_5
           try clear hcz26_6
           try clear hcz26_7
           try clear hcz29_0
           try clear hcz29_1
           try clear hcz29_2
           try clear hcz29_3
           try clear hcz29_4
           try clear hcz29_5
           try clear hcz29_6
           try clear hcz29_7
           try clear hcz32_0
           try clear hcz32_1
           try clear hcz32_2
           try clear hcz32_3
           try clear hcz32_4
           try clear hcz32_5
           try clear hcz32_6
           try clear hcz32_7
           try clear hcz35_0
           try clear hcz35_1
           try clear hcz35_2
           try clear hcz35_3
           try clear hcz35_4
           try clear hcz35_5
           try clear hcz35_6
           try clear hcz35_7
           try clear hcz38_0
           try clear hcz38_1
           try clear hcz38_2
           try clear hcz38_3
           try clear hcz38_4
           try clear hcz38_5
           try clear hcz38_6
           try clear hcz38_7
           try clear hcz41_0
           try clear hcz41_1
           try clear hcz41_2
           try clear hcz41_3
           try clear hcz41_4
           try clear hcz41_5
           try clear hcz41_6
           try clear hcz41_7
           try clear hcz44_0
           try clear hcz44_1
           try clear hcz44_2
           try clear hcz44_3
           try clear hcz44_4
           try clear hcz44_5
           try clear hcz44_6
           try clear hcz44_7
           try clear hcz47_0
           try clear hcz47_1
           try clear hcz47_2
           try clear hcz47_3
           try clear hcz47_4
           try clear hcz47_5
           try clear hcz47_6
           try clear hcz47_7
           try clear hcz49_0
           try clear hcz49_1
           try clear hcz49_2
           try clear hcz49_3
           try clear hcz49_4
           try clear hcz49_5
           try clear hcz49_6
           try clear hcz49_7
           try clear hcz4_0
           try clear hcz4_1
           try clear hcz4_2
           try clear hfz11_0
           try clear hfz11_1
           try clear hfz11_2
           try clear hfz12_0
           try clear hfz12_1
           try clear hfz12_2
           try clear hfz13_0
           try clear hfz13_1
           try clear hfz13_2
           try clear hfz20_0
           try clear hfz20_1
           try clear hfz20_2
           try clear hfz20_3
           try clear hfz20_4
           try clear hfz20_5
           try clear hfz20_6
           try clear hfz20_7
           try clear hfz23_0
           try clear hfz23_1
           try clear hfz23_2
           try clear hfz23_3
           try clear hfz23_4
           try clear hfz23_5
           try clear hfz23_6
           try clear hfz23_7
           try clear hfz26_0
           try clear hfz26_1
           try clear hfz26_2
           try clear hfz26_3
           try clear hfz26_4
           try clear hfz26_5
           try clear hfz26_6
           try clear hfz26_7
           try clear hfz29_0
           try clear hfz29_1
           try clear hfz29_2
           try clear hfz29_3
           try clear hfz29_4
           try clear hfz29_5
           try clear hfz29_6
           try clear hfz29_7
           try clear hfz32_0
           try clear hfz32_1
           try clear hfz32_2
           try clear hfz32_3
           try clear hfz32_4
           try clear hfz32_5
           try clear hfz32_6
           try clear hfz32_7
           try clear hfz35_0
           try clear hfz35_1
           try clear hfz35_2
           try clear hfz35_3
           try clear hfz35_4
           try clear hfz35_5
           try clear hfz35_6
           try clear hfz35_7
           try clear hfz38_0
           try clear hfz38_1
           try clear hfz38_2
           try clear hfz38_3
           try clear hfz38_4
           try clear hfz38_5
           try clear hfz38_6
           try clear hfz38_7
           try clear hfz41_0
           try clear hfz41_1
           try clear hfz41_2
           try clear hfz41_3
           try clear hfz41_4
           try clear hfz41_5
           try clear hfz41_6
           try clear hfz41_7
           try clear hfz44_0
           try clear hfz44_1
           try clear hfz44_2
           try clear hfz44_3
           try clear hfz44_4
           try clear hfz44_5
           try clear hfz44_6
           try clear hfz44_7
           try clear hfz47_0
           try clear hfz47_1
           try clear hfz47_2
           try clear hfz47_3
           try clear hfz47_4
           try clear hfz47_5
           try clear hfz47_6
           try clear hfz47_7
           try clear hfz49_0
           try clear hfz49_1
           try clear hfz49_2
           try clear hfz49_3
           try clear hfz49_4
           try clear hfz49_5
           try clear hfz49_6
           try clear hfz49_7
           try clear hfz4_0
           try clear hfz4_1
           try clear hfz4_2
           try clear hx226_0
           try clear hx227_0
           try clear hx228_0
           try clear hx228_1
           try clear hx228_2
           try clear hx228_3
           try clear hx228_4
           try clear hx228_5
           try clear hx228_6
           try clear hx228_7
           try clear p2
           try clear p226
           try clear p227
           try clear p228
           try clear p6
           try clear q2
           try clear q226
           try clear q227
           try clear q228
           obtain ⟨kq, x93_16, rfl, HA, HJ16, BK225, BK229, HB⟩ := hcut
           cases kq with
           | zero => exact absurd HA.out (by simp [roads_Check.j2])
           | succ kj16 =>
            have H := HA.out; clear HA
            simp only [roads_Check.j2] at H
            by_cases c50 : x93_16 = true
            ·subst c50
             have H1 : (some 2) = some r := by rw [if_pos rfl] at H; exact H
             clear H; have H := H1; clear H1
             obtain rfl := Option.some.inj H
             go_wp2
             repeat (go_quiet (fail); try go_wp2)
             go_ret
             exact ⟨byE, byB2 HB.out GE225.out GE229.out⟩
            ·replace c50 := Bool.eq_false_iff.mpr c50
             subst c50
             have H1 : ((schedule_Check.f kj16 ((rd_T58 l0_2 x40_2).f5.f0) ((rd_T58 l0_2 x40_2).f5.f1) ((rd_T58 l0_2 x40_2).f5.f2)).bind fun t230 => (if t230 = 0 then (roads_Check.l1 kj16 (l0_0.length : Int) l0_2 (l0_2.length : Int) (wrap64 (x40_2 + 1))) else (some t230))) = some r := by rw [if_neg (show ¬ (false = true) by decide)] at H; exact H
             clear H; have H := H1; clear H1
             replace H := Option.bind_eq_some_iff.mp H
             obtain ⟨t230, A510, H⟩ := H
             replace H : (if t230 = 0 then (roads_Check.l1 kj16 (l0_0.length : Int) l0_2 (l0_2.length : Int) (wrap64 (x40_2 + 1))) else (some t230)) = some r := H
             have A51 := Aside0.mk A510; clear A510
             by_cases c52 : t230 = 0
             ·rw [if_pos c52] at H
              have c52b0 : (t230 == 0) = true := beq_iff_eq.mpr c52
              have c52b1 : (t230 != 0) = false := bne_eq_false_iff_eq.mpr c52
              clear c52
              have H' := Aside0.mk H
              clear H; have hnb53 := NB229_225.out; have hnc53 := NB225_229.out
              have hcz54_0 : wc.cell? ⟨gb229, 0, none⟩ = some (.int .i64 ((rd_T58 l0_2 x40_2).f0)) := (blk_cell BK229.out 0).trans rfl
              have hcz54_1 : wc.cell? ⟨gb229, 1, none⟩ = some (.int .i64 ((rd_T58 l0_2 x40_2).f1)) := (blk_cell BK229.out 1).trans rfl
              have hcz54_2 : wc.cell? ⟨gb229, 2, none⟩ = some (.int .i64 ((rd_T58 l0_2 x40_2).f2)) := (blk_cell BK229.out 2).trans rfl
              have hcz54_3 : wc.cell? ⟨gb229, 3, none⟩ = some (.int .i64 ((rd_T58 l0_2 x40_2).f3)) := (blk_cell BK229.out 3).trans rfl
              have hcz54_4 : wc.cell? ⟨gb229, 4, none⟩ = some (.int .i64 ((rd_T58 l0_2 x40_2).f4)) := (blk_cell BK229.out 4).trans rfl
              have hcz54_5 : wc.cell? ⟨gb229, 5, none⟩ = some (.slice A228_5 ((rd_T58 l0_2 x40_2).f5.f0).length c228_5) := (blk_cell BK229.out 5).trans rfl
              have hcz54_6 : wc.cell? ⟨gb229, 6, none⟩ = some (.int .i64 ((rd_T58 l0_2 x40_2).f5.f1)) := (blk_cell BK229.out 6).trans rfl
              have hcz54_7 : wc.cell? ⟨gb229, 7, none⟩ = some (.int .i64 ((rd_T58 l0_2 x40_2).f5.f2)) := (blk_cell BK229.out 7).trans rfl
              have hfz54_0 := blk_frozen BK229.out 0; have hfz54_1 := blk_frozen BK229.out 1; have hfz54_2 := blk_frozen BK229.out 2; have hfz54_3 := blk_frozen BK229.out 3; have hfz54_4 := blk_frozen BK229.out 4; have hfz54_5 := blk_frozen BK229.out 5; have hfz54_6 := blk_frozen BK229.out 6; have hfz54_7 := blk_frozen BK229.out 7
              go_wp2_with (first | (go_at_call 59; (with_reducible refine (schedule_Check.calls kj16 _ _ ((rd_T58 l0_2 x40_2).f5.f0) ((rd_T58 l0_2 x40_2).f5.f1) ((rd_T58 l0_2 x40_2).f5.f2) t230 _ ?side1 ?side2 A51.out).mono ?_); (case side1 => exact byC (Kd.C_below HR228_5.out HB.out)); (case side2 => exact HC228_5.out); rintro e w55 ⟨rfl, hb⟩; have n0_ := Aside0.mk (blk_below (g := gb225) (o := .cells #[.slice A0_0 l0_0.length c0_0, .slice A0_1 l0_1.length c0_1, .slice (some ad228) l0_2.length c0_2] 37 (0, 0)) (byK BK225.out) hb); have n1_ := Aside0.mk (blk_below (g := gb229) (o := .cells #[.int .i64 ((rd_T58 l0_2 x40_2).f0), .int .i64 ((rd_T58 l0_2 x40_2).f1), .int .i64 ((rd_T58 l0_2 x40_2).f2), .int .i64 ((rd_T58 l0_2 x40_2).f3), .int .i64 ((rd_T58 l0_2 x40_2).f4), .slice A228_5 ((rd_T58 l0_2 x40_2).f5.f0).length c228_5, .int .i64 ((rd_T58 l0_2 x40_2).f5.f1), .int .i64 ((rd_T58 l0_2 x40_2).f5.f2)] 58 (0, 0)) (byK BK229.out) hb); have n2_ := Aside0.mk (below_step (byB2 HB.out GE225.out GE229.out) hb); clear BK225 BK229 HB; have BK225 := n0_; have BK229 := n1_; have HB := n2_; clear n0_ n1_ n2_; (try clear hb); (try clear hb2); (try clear hk); (try clear hi)))
              repeat (go_quiet (first | (go_at_call 59; (with_reducible refine (schedule_Check.calls kj16 _ _ ((rd_T58 l0_2 x40_2).f5.f0) ((rd_T58 l0_2 x40_2).f5.f1) ((rd_T58 l0_2 x40_2).f5.f2) t230 _ ?side1 ?side2 A51.out).mono ?_); (case side1 => exact byC (Kd.C_below HR228_5.out HB.out)); (case side2 => exact HC228_5.out); rintro e w55 ⟨rfl, hb⟩; have n0_ := Aside0.mk (blk_below (g := gb225) (o := .cells #[.slice A0_0 l0_0.length c0_0, .slice A0_1 l0_1.length c0_1, .slice (some ad228) l0_2.length c0_2] 37 (0, 0)) (byK BK225.out) hb); have n1_ := Aside0.mk (blk_below (g := gb229) (o := .cells #[.int .i64 ((rd_T58 l0_2 x40_2).f0), .int .i64 ((rd_T58 l0_2 x40_2).f1), .int .i64 ((rd_T58 l0_2 x40_2).f2), .int .i64 ((rd_T58 l0_2 x40_2).f3), .int .i64 ((rd_T58 l0_2 x40_2).f4), .slice A228_5 ((rd_T58 l0_2 x40_2).f5.f0).length c228_5, .int .i64 ((rd_T58 l0_2 x40_2).f5.f1), .int .i64 ((rd_T58 l0_2 x40_2).f5.f2)] 58 (0, 0)) (byK BK229.out) hb); have n2_ := Aside0.mk (below_step (byB2 HB.out GE225.out GE229.out) hb); clear BK225 BK229 HB; have BK225 := n0_; have BK229 := n1_; have HB := n2_; clear n0_ n1_ n2_; (try clear hb); (try clear hb2); (try clear hk); (try clear hi))); try go_wp2_with (first | (go_at_call 59; (with_reducible refine (schedule_Check.calls kj16 _ _ ((rd_T58 l0_2 x40_2).f5.f0) ((rd_T58 l0_2 x40_2).f5.f1) ((rd_T58 l0_2 x40_2).f5.f2) t230 _ ?side1 ?side2 A51.out).mono ?_); (case side1 => exact byC (Kd.C_below HR228_5.out HB.out)); (case side2 => exact HC228_5.out); rintro e w55 ⟨rfl, hb⟩; have n0_ := Aside0.mk (blk_below (g := gb225) (o := .cells #[.slice A0_0 l0_0.length c0_0, .slice A0_1 l0_1.length c0_1, .slice (some ad228) l0_2.length c0_2] 37 (0, 0)) (byK BK225.out) hb); have n1_ := Aside0.mk (blk_below (g := gb229) (o := .cells #[.int .i64 ((rd_T58 l0_2 x40_2).f0), .int .i64 ((rd_T58 l0_2 x40_2).f1), .int .i64 ((rd_T58 l0_2 x40_2).f2), .int .i64 ((rd_T58 l0_2 x40_2).f3), .int .i64 ((rd_T58 l0_2 x40_2).f4), .slice A228_5 ((rd_T58 l0_2 x40_2).f5.f0).length c228_5, .int .i64 ((rd_T58 l0_2 x40_2).f5.f1), .int .i64 ((rd_T58 l0_2 x40_2).f5.f2)] 58 (0, 0)) (byK BK229.out) hb); have n2_ := Aside0.mk (below_step (byB2 HB.out GE225.out GE229.out) hb); clear BK225 BK229 HB; have BK225 := n0_; have BK229 := n1_; have HB := n2_; clear n0_ n1_ n2_; (try clear hb); (try clear hb2); (try clear hk); (try clear hi))))
              go_roundg kj16
              case measure => have := HK1.out; have := HK2.out; have := HJ16.out; omega
              case rel => exact ⟨(wrap64 (x40_2 + 1)), byF, H', ⟨by have := HK1.out; have := HK2.out; have := HJ16.out; omega⟩, ⟨by (with_reducible repeat (first | refine blk_drewN ?_ _ | refine blk_drew ?_ | refine blk_alloc ?_ _)); exact BK225.out⟩, ⟨byB2 HB.out GE225.out GE229.out⟩⟩
             ·rw [if_neg c52] at H
              have c52b0 : (t230 == 0) = false := beq_eq_false_iff_ne.mpr c52
              have c52b1 : (t230 != 0) = true := bne_iff_ne.mpr c52
              obtain rfl := Option.some.inj H
              have hnb56 := NB229_225.out; have hnc56 := NB225_229.out
              have hcz57_0 : wc.cell? ⟨gb229, 0, none⟩ = some (.int .i64 ((rd_T58 l0_2 x40_2).f0)) := (blk_cell BK229.out 0).trans rfl
              have hcz57_1 : wc.cell? ⟨gb229, 1, none⟩ = some (.int .i64 ((rd_T58 l0_2 x40_2).f1)) := (blk_cell BK229.out 1).trans rfl
              have hcz57_2 : wc.cell? ⟨gb229, 2, none⟩ = some (.int .i64 ((rd_T58 l0_2 x40_2).f2)) := (blk_cell BK229.out 2).trans rfl
              have hcz57_3 : wc.cell? ⟨gb229, 3, none⟩ = some (.int .i64 ((rd_T58 l0_2 x40_2).f3)) := (blk_cell BK229.out 3).trans rfl
              have hcz57_4 : wc.cell? ⟨gb229, 4, none⟩ = some (.int .i64 ((rd_T58 l0_2 x40_2).f4)) := (blk_cell BK229.out 4).trans rfl
              have hcz57_5 : wc.cell? ⟨gb229, 5, none⟩ = some (.slice A228_5 ((rd_T58 l0_2 x40_2).f5.f0).length c228_5) := (blk_cell BK229.out 5).trans rfl
              have hcz57_6 : wc.cell? ⟨gb229, 6, none⟩ = some (.int .i64 ((rd_T58 l0_2 x40_2).f5.f1)) := (blk_cell BK229.out 6).trans rfl
              have hcz57_7 : wc.cell? ⟨gb229, 7, none⟩ = some (.int .i64 ((rd_T58 l0_2 x40_2).f5.f2)) := (blk_cell BK229.out 7).trans rfl
              have hfz57_0 := blk_frozen BK229.out 0; have hfz57_1 := blk_frozen BK229.out 1; have hfz57_2 := blk_frozen BK229.out 2; have hfz57_3 := blk_frozen BK229.out 3; have hfz57_4 := blk_frozen BK229.out 4; have hfz57_5 := blk_frozen BK229.out 5; have hfz57_6 := blk_frozen BK229.out 6; have hfz57_7 := blk_frozen BK229.out 7
              go_wp2_with (first | (go_at_call 59; (with_reducible refine (schedule_Check.calls kj16 _ _ ((rd_T58 l0_2 x40_2).f5.f0) ((rd_T58 l0_2 x40_2).f5.f1) ((rd_T58 l0_2 x40_2).f5.f2) t230 _ ?side1 ?side2 A51.out).mono ?_); (case side1 => exact byC (Kd.C_below HR228_5.out HB.out)); (case side2 => exact HC228_5.out); rintro e w58 ⟨rfl, hb⟩; have n0_ := Aside0.mk (blk_below (g := gb225) (o := .cells #[.slice A0_0 l0_0.length c0_0, .slice A0_1 l0_1.length c0_1, .slice (some ad228) l0_2.length c0_2] 37 (0, 0)) (byK BK225.out) hb); have n1_ := Aside0.mk (blk_below (g := gb229) (o := .cells #[.int .i64 ((rd_T58 l0_2 x40_2).f0), .int .i64 ((rd_T58 l0_2 x40_2).f1), .int .i64 ((rd_T58 l0_2 x40_2).f2), .int .i64 ((rd_T58 l0_2 x40_2).f3), .int .i64 ((rd_T58 l0_2 x40_2).f4), .slice A228_5 ((rd_T58 l0_2 x40_2).f5.f0).length c228_5, .int .i64 ((rd_T58 l0_2 x40_2).f5.f1), .int .i64 ((rd_T58 l0_2 x40_2).f5.f2)] 58 (0, 0)) (byK BK229.out) hb); have n2_ := Aside0.mk (below_step (byB2 HB.out GE225.out GE229.out) hb); clear BK225 BK229 HB; have BK225 := n0_; have BK229 := n1_; have HB := n2_; clear n0_ n1_ n2_; (try clear hb); (try clear hb2); (try clear hk); (try clear hi)))
              repeat (go_quiet (first | (go_at_call 59; (with_reducible refine (schedule_Check.calls kj16 _ _ ((rd_T58 l0_2 x40_2).f5.f0) ((rd_T58 l0_2 x40_2).f5.f1) ((rd_T58 l0_2 x40_2).f5.f2) t230 _ ?side1 ?side2 A51.out).mono ?_); (case side1 => exact byC (Kd.C_below HR228_5.out HB.out)); (case side2 => exact HC228_5.out); rintro e w58 ⟨rfl, hb⟩; have n0_ := Aside0.mk (blk_below (g := gb225) (o := .cells #[.slice A0_0 l0_0.length c0_0, .slice A0_1 l0_1.length c0_1, .slice (some ad228) l0_2.length c0_2] 37 (0, 0)) (byK BK225.out) hb); have n1_ := Aside0.mk (blk_below (g := gb229) (o := .cells #[.int .i64 ((rd_T58 l0_2 x40_2).f0), .int .i64 ((rd_T58 l0_2 x40_2).f1), .int .i64 ((rd_T58 l0_2 x40_2).f2), .int .i64 ((rd_T58 l0_2 x40_2).f3), .int .i64 ((rd_T58 l0_2 x40_2).f4), .slice A228_5 ((rd_T58 l0_2 x40_2).f5.f0).length c228_5, .int .i64 ((rd_T58 l0_2 x40_2).f5.f1), .int .i64 ((rd_T58 l0_2 x40_2).f5.f2)] 58 (0, 0)) (byK BK229.out) hb); have n2_ := Aside0.mk (below_step (byB2 HB.out GE225.out GE229.out) hb); clear BK225 BK229 HB; have BK225 := n0_; have BK229 := n1_; have HB := n2_; clear n0_ n1_ n2_; (try clear hb); (try clear hb2); (try clear hk); (try clear hi))); try go_wp2_with (first | (go_at_call 59; (with_reducible refine (schedule_Check.calls kj16 _ _ ((rd_T58 l0_2 x40_2).f5.f0) ((rd_T58 l0_2 x40_2).f5.f1) ((rd_T58 l0_2 x40_2).f5.f2) t230 _ ?side1 ?side2 A51.out).mono ?_); (case side1 => exact byC (Kd.C_below HR228_5.out HB.out)); (case side2 => exact HC228_5.out); rintro e w58 ⟨rfl, hb⟩; have n0_ := Aside0.mk (blk_below (g := gb225) (o := .cells #[.slice A0_0 l0_0.length c0_0, .slice A0_1 l0_1.length c0_1, .slice (some ad228) l0_2.length c0_2] 37 (0, 0)) (byK BK225.out) hb); have n1_ := Aside0.mk (blk_below (g := gb229) (o := .cells #[.int .i64 ((rd_T58 l0_2 x40_2).f0), .int .i64 ((rd_T58 l0_2 x40_2).f1), .int .i64 ((rd_T58 l0_2 x40_2).f2), .int .i64 ((rd_T58 l0_2 x40_2).f3), .int .i64 ((rd_T58 l0_2 x40_2).f4), .slice A228_5 ((rd_T58 l0_2 x40_2).f5.f0).length c228_5, .int .i64 ((rd_T58 l0_2 x40_2).f5.f1), .int .i64 ((rd_T58 l0_2 x40_2).f5.f2)] 58 (0, 0)) (byK BK229.out) hb); have n2_ := Aside0.mk (below_step (byB2 HB.out GE225.out GE229.out) hb); clear BK225 BK229 HB; have BK225 := n0_; have BK229 := n1_; have HB := n2_; clear n0_ n1_ n2_; (try clear hb); (try clear hb2); (try clear hk); (try clear hi))))
              go_ret
              exact ⟨byE, byB2 HB.out GE225.out GE229.out⟩
         ·rw [if_neg c16] at H
          exact absurd H (by simp)
        ·rw [if_neg c15] at H
         exact absurd H (by simp)
       ·rw [if_neg c14] at H
        have c14b0 : decide (x40_2 < (l0_2.length : Int)) = false := decide_eq_false c14
        clear c14
        obtain rfl := Option.some.inj H
        go_wp2
        repeat (go_quiet (fail); try go_wp2)
        go_ret
        exact ⟨byE, byB1 HB.out GE225.out⟩
 ·rw [if_neg c2] at H
  have c2b0 : ((l0_0.length : Int) == (l0_1.length : Int)) = false := beq_eq_false_iff_ne.mpr c2
  have c2b1 : ((l0_0.length : Int) != (l0_1.length : Int)) = true := bne_iff_ne.mpr c2
  have c2b2 : (l0_0.length == l0_1.length) = false := by first | simpa using c2 | (simp at c2 ⊢; omega)
  obtain rfl := Option.some.inj H
  go_enter Try.func36, Try.ntmps36
  go_wp2_with (first | ((with_reducible refine gate_dst (N := 1) rfl ?_); refine box_event ?hg (N := 1) ?hd (cs := #[.slice A0_0 l0_0.length c0_0, .slice A0_1 l0_1.length c0_1, .slice A0_2 l0_2.length c0_2]) (t := 37) ?hr ?_; (case hd => rfl); (case hg => rfl); (case hr => first | (go_simp; done) | (go_simp; rfl)); intro gb225 hg w59 hbox hb; have n0_ := Aside0.mk (below_step (byB HB.out) hb); have n1_ := Aside0.mk (hbox); have n2_ := Aside0.mk ((by rw [hg]; exact (below_size (byB HB.out)) : w.heap.size ≤ gb225)); have n3_ := Aside0.mk ((by rw [hg]; exact (below_size (byB HB.out)) : w.heap.size ≤ gb225)); clear HB; have HB := n0_; have BK225 := n1_; have GW225 := n2_; have GE225 := n3_; clear n0_ n1_ n2_ n3_ hb hbox hg; have hcz60_0 : w59.cell? ⟨gb225, 0, none⟩ = some (.slice A0_0 l0_0.length c0_0) := (blk_cell BK225.out 0).trans rfl; have hcz60_1 : w59.cell? ⟨gb225, 1, none⟩ = some (.slice A0_1 l0_1.length c0_1) := (blk_cell BK225.out 1).trans rfl; have hcz60_2 : w59.cell? ⟨gb225, 2, none⟩ = some (.slice A0_2 l0_2.length c0_2) := (blk_cell BK225.out 2).trans rfl; have hfz60_0 := blk_frozen BK225.out 0; have hfz60_1 := blk_frozen BK225.out 1; have hfz60_2 := blk_frozen BK225.out 2))
  repeat (go_quiet (first | ((with_reducible refine gate_dst (N := 1) rfl ?_); refine box_event ?hg (N := 1) ?hd (cs := #[.slice A0_0 l0_0.length c0_0, .slice A0_1 l0_1.length c0_1, .slice A0_2 l0_2.length c0_2]) (t := 37) ?hr ?_; (case hd => rfl); (case hg => rfl); (case hr => first | (go_simp; done) | (go_simp; rfl)); intro gb225 hg w59 hbox hb; have n0_ := Aside0.mk (below_step (byB HB.out) hb); have n1_ := Aside0.mk (hbox); have n2_ := Aside0.mk ((by rw [hg]; exact (below_size (byB HB.out)) : w.heap.size ≤ gb225)); have n3_ := Aside0.mk ((by rw [hg]; exact (below_size (byB HB.out)) : w.heap.size ≤ gb225)); clear HB; have HB := n0_; have BK225 := n1_; have GW225 := n2_; have GE225 := n3_; clear n0_ n1_ n2_ n3_ hb hbox hg; have hcz60_0 : w59.cell? ⟨gb225, 0, none⟩ = some (.slice A0_0 l0_0.length c0_0) := (blk_cell BK225.out 0).trans rfl; have hcz60_1 : w59.cell? ⟨gb225, 1, none⟩ = some (.slice A0_1 l0_1.length c0_1) := (blk_cell BK225.out 1).trans rfl; have hcz60_2 : w59.cell? ⟨gb225, 2, none⟩ = some (.slice A0_2 l0_2.length c0_2) := (blk_cell BK225.out 2).trans rfl; have hfz60_0 := blk_frozen BK225.out 0; have hfz60_1 := blk_frozen BK225.out 1; have hfz60_2 := blk_frozen BK225.out 2)); try go_wp2_with (first | ((with_reducible refine gate_dst (N := 1) rfl ?_); refine box_event ?hg (N := 1) ?hd (cs := #[.slice A0_0 l0_0.length c0_0, .slice A0_1 l0_1.length c0_1, .slice A0_2 l0_2.length c0_2]) (t := 37) ?hr ?_; (case hd => rfl); (case hg => rfl); (case hr => first | (go_simp; done) | (go_simp; rfl)); intro gb225 hg w59 hbox hb; have n0_ := Aside0.mk (below_step (byB HB.out) hb); have n1_ := Aside0.mk (hbox); have n2_ := Aside0.mk ((by rw [hg]; exact (below_size (byB HB.out)) : w.heap.size ≤ gb225)); have n3_ := Aside0.mk ((by rw [hg]; exact (below_size (byB HB.out)) : w.heap.size ≤ gb225)); clear HB; have HB := n0_; have BK225 := n1_; have GW225 := n2_; have GE225 := n3_; clear n0_ n1_ n2_ n3_ hb hbox hg; have hcz60_0 : w59.cell? ⟨gb225, 0, none⟩ = some (.slice A0_0 l0_0.length c0_0) := (blk_cell BK225.out 0).trans rfl; have hcz60_1 : w59.cell? ⟨gb225, 1, none⟩ = some (.slice A0_1 l0_1.length c0_1) := (blk_cell BK225.out 1).trans rfl; have hcz60_2 : w59.cell? ⟨gb225, 2, none⟩ = some (.slice A0_2 l0_2.length c0_2) := (blk_cell BK225.out 2).trans rfl; have hfz60_0 := blk_frozen BK225.out 0; have hfz60_1 := blk_frozen BK225.out 1; have hfz60_2 := blk_frozen BK225.out 2)))
  go_ret
  exact ⟨byE, byB1 HB.out GE225.out⟩
end Go.Proofs.Ytaodlehnfjalnaa.Print
