/- The example of chapter 40 holds. -/
import Derived.Test.YtcfeehaoeaoegaaHKPlainD
import Derived.Test.YtcfeehaoeaoegaaF49
import Derived.Test.YtcfeehaoeaoegaaF12
namespace Go.Proofs.Ytcfeehaoeaoegaa.Print
open Go.RowKit Go.Proofs.YtcfeehaoeaoegaaW.PrintWords Go.Proofs.YtcfeehaoeaoegaaW.PrintLast Go.Proofs.YtcfeehaoeaoegaaW.PrintMore
set_option linter.unusedVariables false
set_option linter.unusedSimpArgs false

/-- A literal list in a block. -/
theorem C_lit {w : World} {b : Nat} {l : List Int} {cs : Array Value} {t : TypeId} (h : w.heap[b]? = some (.cells cs t (0, 0))) (hc : cs.toList = l.map (Value.int .i64)) (hl : l.length ≤ 1000000) : Kd.C (Kd.int .i64) w (some ⟨b, 0, none⟩) l.length l := by
  refine ⟨rfl, by omega, fun _ => ⟨_, rfl, fun j p hj => ⟨[.int .i64 p], rfl, rfl, fun i u hu => ?_⟩⟩⟩
  have hi : i = 0 := by
    rcases Nat.eq_zero_or_pos i with h0 | h0
    · exact h0
    · rw [List.getElem?_eq_none (by simp; omega)] at hu
      cases hu
  subst hi
  have hu' : Value.int .i64 p = u := by simpa using hu
  subst hu'
  show w.cell? ((⟨b, 0, none⟩ : Addr).add (j * 1 + 0)) = _
  rw [Addr.add_lit, Nat.mul_one, Nat.add_zero, Nat.zero_add, blk_cell h]
  rw [← Array.getElem?_toList, hc, List.getElem?_map, hj]
  rfl
theorem C_litA {w : World} {b : Nat} {l : List S38} {cs : Array Value} {t : TypeId} (h : w.heap[b]? = some (.cells cs t (0, 0))) (hc : cs.toList = arcVals l) (hl : l.length ≤ 1000000) : Kd.C k38 w (some ⟨b, 0, none⟩) l.length l := by
  refine ⟨rfl, by omega, fun _ => ⟨_, rfl, fun j p hj => ⟨[.int .i64 p.f0, .int .i64 p.f1], rfl, k38_mk _ _, fun i u hu => ?_⟩⟩⟩
  show w.cell? ((⟨b, 0, none⟩ : Addr).add (j * 2 + i)) = _
  rw [Addr.add_lit, Nat.zero_add, blk_cell h, ← Array.getElem?_toList, hc]
  have hd := arcVals_drop l j p hj
  have hi : i < 2 := by
    have := (List.getElem?_eq_some_iff.1 hu).1
    simpa using this
  rw [← hd, List.getElem?_take, if_pos hi, List.getElem?_drop] at hu
  exact hu
/-- Block p is the hierarchy of a graph and an order. -/
def HierOf (w : World) (p n : Nat) (arcs : List S38) (L : List Int) : Prop := HierR w p n arcs L (ranksTo L L.length) (hierS n arcs L)
theorem HierOf.below {w w1 : World} {p n : Nat} {arcs : List S38} {L : List Int} (h : HierOf w p n arcs L) (hb : Below w.heap.size w w1) : HierOf w1 p n arcs L := HierR.below h hb
theorem Drawn0.bel {w w' : World} (h : Drawn0 w w') : Below w.heap.size w w' := h.below
abbrev exA : List S38 := [⟨0, 1⟩, ⟨1, 2⟩, ⟨2, 3⟩, ⟨3, 0⟩]
abbrev exE : List S38 := [⟨0, 1⟩, ⟨0, 3⟩, ⟨1, 2⟩, ⟨1, 3⟩, ⟨2, 3⟩]
theorem exE_eq : (hierS 4 exA [0, 1, 2, 3]).edges = exE := by kernel_rfl
theorem exF_eq : findS 4 (ranksTo [0, 1, 2, 3] 4) (hierS 4 exA [0, 1, 2, 3]) 3 1 = (3, true) := by kernel_rfl
theorem exL_eq : lowerS (hierS 4 exA [0, 1, 2, 3]) 3 = [0] := by kernel_rfl
theorem exP0_eq : parentS 4 (hierS 4 exA [0, 1, 2, 3]) 0 = 1 := by kernel_rfl
theorem exP3_eq : parentS 4 (hierS 4 exA [0, 1, 2, 3]) 3 = -1 := by kernel_rfl
theorem exHk : Hk 4 exA [0, 1, 2, 3] := ⟨by kernel_rfl, isOrd_of (n := 4) (by decide) (by kernel_rfl)⟩

set_option maxHeartbeats 3200000 in
set_option maxRecDepth 100000 in
theorem mapmakerlaw40_lives.calls (w : World) : Calls Try.prog 13 #[] w fun e w' => e = .returned (.bool true) ∧ Below w.heap.size w w' := by
  go_enter Try.func13, Try.ntmps13
  go_wp2_with (fail)
  refine (mapmakerlaw40_cycle.calls 4 exA _ rfl).mono ?_
  rintro e w1 ⟨v1, rfl, hr1, hb1⟩
  obtain ⟨A1, c1, rfl⟩ := Kd.R_slice hr1
  have hC1 := Kd.R_reads' hr1
  have HC1 := Aside0.mk hC1.2.2
  have HC1L := Aside0.mk hC1.2.1
  have HB1 := Aside0.mk hb1
  clear hr1 hb1 hC1
  go_wp2_with (fail)
  have hbe1 : Below w1.heap.size w1 (w1.alloc (.cells #[.int .i64 0, .int .i64 1, .int .i64 2, .int .i64 3] 3)) := (Below.refl _ _).alloc (Nat.le_refl _) _
  have HL1 := Aside0.mk (C_lit (l := [0, 1, 2, 3]) (heap_alloc_new w1 (.cells #[.int .i64 0, .int .i64 1, .int .i64 2, .int .i64 3] 3)) rfl (by decide))
  have HA1 := Aside0.mk (Kd.C_below HC1.out hbe1)
  have HB2 := Aside0.mk (below_more HB1.out (Nat.le_refl _) hbe1)
  clear hbe1
  generalize w1.alloc (.cells #[.int .i64 0, .int .i64 1, .int .i64 2, .int .i64 3] 3) = w2 at HL1 HA1 HB2 ⊢
  generalize w1.heap.size = b1 at HL1 ⊢
  refine (contract_New.calls (N := 4) (arcs := exA) (L := [0, 1, 2, 3]) HA1.out HC1L.out HL1.out (by decide) (by decide) (by decide) (by decide)).mono ?_
  rintro e w3 ⟨hb3, (⟨hne, _⟩ | ⟨_, p, rfl, hH⟩)⟩
  · exact absurd (show newErr 4 exA [0, 1, 2, 3] = 0 by kernel_rfl) hne
  have HH := Aside0.mk (show HierOf w3 p 4 exA [0, 1, 2, 3] from hH)
  have HB3 := Aside0.mk (below_more HB2.out (Nat.le_refl _) hb3)
  clear hb3 hH HL1 HA1 HB2 HB1 HC1 HC1L
  go_wp2_with (fail)
  refine (mapmakerlaw40_cycle.calls 4 exA _ rfl).mono ?_
  rintro e w1 ⟨v1, rfl, hr1, hb1⟩
  obtain ⟨A1, c1, rfl⟩ := Kd.R_slice hr1
  have hC1 := Kd.R_reads' hr1
  have HC1 := Aside0.mk hC1.2.2
  have HC1L := Aside0.mk hC1.2.1
  have HB1 := Aside0.mk (below_more HB3.out (Nat.le_refl _) hb1)
  have HH1 := Aside0.mk (HH.out.below hb1)
  clear hr1 hb1 hC1 HH HB3
  go_wp2_with (fail)
  have hbe1 : Below w1.heap.size w1 (w1.alloc (.cells #[.int .i64 0, .int .i64 1, .int .i64 2] 3)) := (Below.refl _ _).alloc (Nat.le_refl _) _
  have HL1 := Aside0.mk (C_lit (l := [0, 1, 2]) (heap_alloc_new w1 (.cells #[.int .i64 0, .int .i64 1, .int .i64 2] 3)) rfl (by decide))
  have HA1 := Aside0.mk (Kd.C_below HC1.out hbe1)
  have HB2 := Aside0.mk (below_more HB1.out (Nat.le_refl _) hbe1)
  have HH2 := Aside0.mk (HH1.out.below hbe1)
  clear hbe1
  generalize w1.alloc (.cells #[.int .i64 0, .int .i64 1, .int .i64 2] 3) = w2 at HL1 HA1 HB2 HH2 ⊢
  generalize w1.heap.size = b1 at HL1 ⊢
  refine (contract_New.calls (N := 4) (arcs := exA) (L := [0, 1, 2]) HA1.out HC1L.out HL1.out (by decide) (by decide) (by decide) (by decide)).mono ?_
  rintro e w3 ⟨hb3, (⟨_, rfl⟩ | ⟨he0, _⟩)⟩
  rotate_left
  · exact absurd he0 (by rw [show newErr 4 exA [0, 1, 2] = 12 by kernel_rfl]; decide)
  rw [show newErr 4 exA [0, 1, 2] = 12 by kernel_rfl]
  have HH3 := Aside0.mk (HH2.out.below hb3)
  have HB3 := Aside0.mk (below_more HB2.out (Nat.le_refl _) hb3)
  clear hb3 HL1 HA1 HB2 HB1 HC1 HC1L HH1 HH2
  go_wp2_with (fail)
  refine (mapmakerlaw40_cycle.calls 4 exA _ rfl).mono ?_
  rintro e w1 ⟨v1, rfl, hr1, hb1⟩
  obtain ⟨A1, c1, rfl⟩ := Kd.R_slice hr1
  have hC1 := Kd.R_reads' hr1
  have HC1 := Aside0.mk hC1.2.2
  have HC1L := Aside0.mk hC1.2.1
  have HB1 := Aside0.mk (below_more HB3.out (Nat.le_refl _) hb1)
  have HH1 := Aside0.mk (HH3.out.below hb1)
  clear hr1 hb1 hC1 HH3 HB3
  go_wp2_with (fail)
  have hbe1 : Below w1.heap.size w1 (w1.alloc (.cells #[.int .i64 0, .int .i64 1, .int .i64 1, .int .i64 2] 3)) := (Below.refl _ _).alloc (Nat.le_refl _) _
  have HL1 := Aside0.mk (C_lit (l := [0, 1, 1, 2]) (heap_alloc_new w1 (.cells #[.int .i64 0, .int .i64 1, .int .i64 1, .int .i64 2] 3)) rfl (by decide))
  have HA1 := Aside0.mk (Kd.C_below HC1.out hbe1)
  have HB2 := Aside0.mk (below_more HB1.out (Nat.le_refl _) hbe1)
  have HH2 := Aside0.mk (HH1.out.below hbe1)
  clear hbe1
  generalize w1.alloc (.cells #[.int .i64 0, .int .i64 1, .int .i64 1, .int .i64 2] 3) = w2 at HL1 HA1 HB2 HH2 ⊢
  generalize w1.heap.size = b1 at HL1 ⊢
  refine (contract_New.calls (N := 4) (arcs := exA) (L := [0, 1, 1, 2]) HA1.out HC1L.out HL1.out (by decide) (by decide) (by decide) (by decide)).mono ?_
  rintro e w3 ⟨hb3, (⟨_, rfl⟩ | ⟨he0, _⟩)⟩
  rotate_left
  · exact absurd he0 (by rw [show newErr 4 exA [0, 1, 1, 2] = 7 by kernel_rfl]; decide)
  rw [show newErr 4 exA [0, 1, 1, 2] = 7 by kernel_rfl]
  have HH3 := Aside0.mk (HH2.out.below hb3)
  have HB3 := Aside0.mk (below_more HB2.out (Nat.le_refl _) hb3)
  clear hb3 HL1 HA1 HB2 HB1 HC1 HC1L HH1 HH2
  go_wp2_with (fail)
  refine (Hier_Find.calls HH3.out exHk.lenR 3 1).mono ?_
  rintro e w4 ⟨he4, hb4⟩
  have he4' : e = .returned (.tuple #[.int .i64 3, .bool true]) := he4.trans (by kernel_rfl)
  clear he4
  subst he4'
  have HH4 := Aside0.mk (HH3.out.below hb4)
  have HB4 := Aside0.mk (below_more HB3.out (Nat.le_refl _) hb4)
  clear hb4 HH3 HB3
  go_wp2_with (fail)
  refine (Hier_Edges.calls HH4.out (by rw [exE_eq]; decide)).mono ?_
  rintro e w5 ⟨v5, rfl, hr5, hb5⟩
  rw [exE_eq] at hr5
  obtain ⟨A5, c5, rfl⟩ := Kd.R_slice hr5
  have hC5 := Kd.R_reads' hr5
  have HC5 := Aside0.mk hC5.2.2
  have HC5L := Aside0.mk hC5.2.1
  have HH5 := Aside0.mk (HH4.out.below hb5)
  have HB5 := Aside0.mk (below_more HB4.out (Nat.le_refl _) hb5)
  clear hr5 hb5 hC5 HH4 HB4
  go_wp2_with (fail)
  have hbe : Below w5.heap.size w5 (w5.alloc (.cells #[.int .i64 0, .int .i64 1, .int .i64 0, .int .i64 3, .int .i64 1, .int .i64 2, .int .i64 1, .int .i64 3, .int .i64 2, .int .i64 3] 38)) := (Below.refl _ _).alloc (Nat.le_refl _) _
  have HL6 := Aside0.mk (C_litA (l := exE) (heap_alloc_new w5 (.cells #[.int .i64 0, .int .i64 1, .int .i64 0, .int .i64 3, .int .i64 1, .int .i64 2, .int .i64 1, .int .i64 3, .int .i64 2, .int .i64 3] 38)) rfl (by decide))
  have HC6 := Aside0.mk (Kd.C_below HC5.out hbe)
  have HH6 := Aside0.mk (HH5.out.below hbe)
  have HB6 := Aside0.mk (below_more HB5.out (Nat.le_refl _) hbe)
  clear hbe HH5 HB5 HC5
  generalize w5.alloc (.cells #[.int .i64 0, .int .i64 1, .int .i64 0, .int .i64 3, .int .i64 1, .int .i64 2, .int .i64 1, .int .i64 3, .int .i64 2, .int .i64 3] 38) = w6 at HL6 HC6 HH6 HB6 ⊢
  generalize w5.heap.size = b5 at HL6 ⊢
  refine (mapmakerref40_Same.calls 20 A5 c5 exE (some ⟨b5, 0, none⟩) 5 exE true _ HC6.out HC5L.out HL6.out (by decide) (by kernel_rfl)).mono ?_
  rintro e w7 ⟨rfl, hd7⟩
  have hb7 := hd7.below
  have HH7 := Aside0.mk (HH6.out.below hb7)
  have HB7 := Aside0.mk (below_more HB6.out (Nat.le_refl _) hb7)
  clear hd7 hb7 HL6 HC6 HH6 HB6 HC5L
  go_wp2_with (fail)
  refine (Hier_Lower.calls HH7.out exHk.ok exHk.ends (exHk.capd (by decide)) 3).mono ?_
  rintro e w8 ⟨v8, rfl, hr8, hb8⟩
  rw [exL_eq] at hr8
  obtain ⟨A8, c8, rfl⟩ := Kd.R_slice hr8
  have hC8 := Kd.R_reads' hr8
  have HC8 := Aside0.mk hC8.2.2
  have HC8L := Aside0.mk hC8.2.1
  have HH8 := Aside0.mk (HH7.out.below hb8)
  have HB8 := Aside0.mk (below_more HB7.out (Nat.le_refl _) hb8)
  clear hr8 hb8 hC8 HH7 HB7
  go_wp2_with (fail)
  have hbe : Below w8.heap.size w8 (w8.alloc (.cells #[.int .i64 0] 3)) := (Below.refl _ _).alloc (Nat.le_refl _) _
  have HL9 := Aside0.mk (C_lit (l := [0]) (heap_alloc_new w8 (.cells #[.int .i64 0] 3)) rfl (by decide))
  have HC9 := Aside0.mk (Kd.C_below HC8.out hbe)
  have HH9 := Aside0.mk (HH8.out.below hbe)
  have HB9 := Aside0.mk (below_more HB8.out (Nat.le_refl _) hbe)
  clear hbe HH8 HB8 HC8
  generalize w8.alloc (.cells #[.int .i64 0] 3) = w9 at HL9 HC9 HH9 HB9 ⊢
  generalize w8.heap.size = b8 at HL9 ⊢
  refine (mapmakerref05_Equal.calls 20 A8 c8 [0] (some ⟨b8, 0, none⟩) 1 [0] true _ HC9.out HC8L.out HL9.out (by decide) (by kernel_rfl)).mono ?_
  rintro e w10 ⟨rfl, hd10⟩
  have hb10 := hd10.below
  have HH10 := Aside0.mk (HH9.out.below hb10)
  have HB10 := Aside0.mk (below_more HB9.out (Nat.le_refl _) hb10)
  clear hd10 hb10 HL9 HC9 HH9 HB9 HC8L
  go_wp2_with (fail)
  refine (Hier_Parent.calls HH10.out exHk.ok 0).mono ?_
  rintro e w11 ⟨he, hb11⟩
  have he' : e = .returned (.int .i64 1) := he.trans (by kernel_rfl)
  clear he
  subst he'
  have HH11 := Aside0.mk (HH10.out.below hb11)
  have HB11 := Aside0.mk (below_more HB10.out (Nat.le_refl _) hb11)
  clear hb11 HH10 HB10
  go_wp2_with (fail)
  refine (Hier_Parent.calls HH11.out exHk.ok 3).mono ?_
  rintro e w12 ⟨he, hb12⟩
  have he' : e = .returned (.int .i64 (-1)) := he.trans (by kernel_rfl)
  clear he
  subst he'
  have HB12 := Aside0.mk (below_more HB11.out (Nat.le_refl _) hb12)
  clear hb12 HH11 HB11
  go_wp2_with (fail)
  refine (Hier_Rank.nil 0 _).mono ?_
  rintro e w13 ⟨rfl, rfl⟩
  go_wp2_with (fail)
  refine (Hier_Parent.nil 0 _).mono ?_
  rintro e w14 ⟨rfl, rfl⟩
  go_wp2_with (fail)
  refine (Hier_Edges.nil _).mono ?_
  rintro e w15 ⟨rfl, rfl⟩
  go_wp2
  go_ret
  exact ⟨rfl, HB12.out⟩
end Go.Proofs.Ytcfeehaoeaoegaa.Print
