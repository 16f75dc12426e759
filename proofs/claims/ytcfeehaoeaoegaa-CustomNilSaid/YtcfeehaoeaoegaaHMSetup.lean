/- A metric of a graph, an order and weights; the calls of Setup and lives of chapter 41. -/
import Derived.Test.YtcfeehaoeaoegaaHMPure
namespace Go.Proofs.Ytcfeehaoeaoegaa.Print
open Go.RowKit Go.Proofs.YtcfeehaoeaoegaaW.PrintWords Go.Proofs.YtcfeehaoeaoegaaW.PrintLast Go.Proofs.YtcfeehaoeaoegaaW.PrintMore
set_option linter.unusedVariables false
set_option linter.unusedSimpArgs false

/-- Block q is the metric of a graph, an order and weights; p is its hierarchy. -/
structure MetH (w : World) (q p n : Nat) (arcs : List S38) (L ws : List Int) : Prop where
  out : ∃ (W1 : World) (o : Tags) (wv uv dv : Value) (Ba : Nat) (va : Nat → Value), HierOf W1 p n arcs L ∧ Below W1.heap.size W1 w ∧ MetO w W1.heap.size q p o wv uv dv Ba va ws (arS n arcs L) (sdS n arcs L ws).1 (sdS n arcs L ws).2
section
variable {w w1 : World} {q p n : Nat} {arcs : List S38} {L ws : List Int}
theorem MetH.below (h : MetH w q p n arcs L ws) (hb : Below w.heap.size w w1) : MetH w1 q p n arcs L ws := by
  obtain ⟨W1, o, wv, uv, dv, Ba, va, h1, h2, h3⟩ := h.out
  exact ⟨W1, o, wv, uv, dv, Ba, va, h1, below_then h2 h2.size hb, h3.below hb⟩
theorem MetH.hier (h : MetH w q p n arcs L ws) : HierOf w p n arcs L := by
  obtain ⟨W1, o, wv, uv, dv, Ba, va, h1, h2, h3⟩ := h.out
  exact h1.below h2
theorem arS_len (n : Nat) (arcs : List S38) (L : List Int) : (arS n arcs L).length = (hierS n arcs L).edges.length := arcsTo_len _ _ _ _ _
theorem MetH.reads (h : MetH w q p n arcs L ws) (hk : Hk n arcs L) (hn : n ≤ 1000) : MetR w q p ws (arS n arcs L) (sdS n arcs L ws).1 (sdS n arcs L ws).2 := by
  obtain ⟨W1, o, wv, uv, dv, Ba, va, h1, h2, h3⟩ := h.out
  exact h3.reads (by rw [arS_len]; have := hk.short hn; omega)
theorem hk_of {N : Int} (hN : N ≤ 1000) (h : newErr N arcs L = 0) : ∃ n : Nat, N = (n : Int) ∧ n ≤ 1000 ∧ Hk n arcs L := by
  unfold newErr at h
  split at h
  · rename_i h1
    exact absurd h h1
  · rename_i h1
    have hchk := Classical.not_not.1 h1
    obtain ⟨hN0, hN1, _⟩ := chk_ok hchk
    obtain ⟨n, rfl⟩ := Int.eq_ofNat_of_zero_le hN0
    have h2 := isOrd_of hN0 h
    rw [Int.toNat_natCast] at h2
    exact ⟨n, rfl, by omega, hchk, h2⟩
end
set_option maxHeartbeats 3200000 in
set_option maxRecDepth 100000 in
theorem law41_Setup.calls {w : World} {N : Int} {gA : Option Addr} {gc : Nat} {arcs : List S38} {lA : Option Addr} {lc : Nat} {L : List Int} {wA : Option Addr} {wc : Nat} {ws : List Int} (hg : Kd.C k38 w gA arcs.length arcs) (hgc : arcs.length ≤ gc) (hl : Kd.C (Kd.int .i64) w lA L.length L) (hlc : L.length ≤ lc) (hw : Kd.C (Kd.int .i64) w wA ws.length ws) (hwc : ws.length ≤ wc)
    (hN : N ≤ 100) (hal : arcs.length ≤ 1000000) (hll : L.length ≤ 1000000) (hwl : ws.length ≤ 1000000) :
    Calls Try.prog 36 #[.agg #[.int .i64 N, .slice gA arcs.length gc], .slice lA L.length lc, .slice wA ws.length wc] w fun e w' => Below w.heap.size w w' ∧
      (((newErr N arcs L ≠ 0 ∨ dchk N arcs ws ≠ 0) ∧ e = .returned (.tuple #[.pointer none, .bool false])) ∨
       (newErr N arcs L = 0 ∧ dchk N arcs ws = 0 ∧ ∃ q p, e = .returned (.tuple #[.pointer (some ⟨q, 0, none⟩), .bool true]) ∧ MetH w' q p N.toNat arcs L ws)) := by
  have HG := Aside0.mk hg
  have HGC := Aside0.mk hgc
  have HL := Aside0.mk hl
  have HLC := Aside0.mk hlc
  have HW := Aside0.mk hw
  have HWC := Aside0.mk hwc
  clear hg hgc hl hlc hw hwc
  go_enter Try.func36, Try.ntmps36
  go_wp2_with (fail)
  have hba : Below w.heap.size w (w.alloc (Obj.cells #[.int .i64 N, .slice gA arcs.length gc] 24)) := (Below.refl _ _).alloc (Nat.le_refl _) _
  have HB := Aside0.mk hba
  replace HG := Aside0.mk (Kd.C_below HG.out hba)
  replace HL := Aside0.mk (Kd.C_below HL.out hba)
  replace HW := Aside0.mk (Kd.C_below HW.out hba)
  clear hba
  generalize w.alloc (Obj.cells #[.int .i64 N, .slice gA arcs.length gc] 24) = w1 at HB HG HL HW ⊢
  refine (contract_New.calls HG.out HGC.out HL.out HLC.out (.inl (by omega)) hal hll).mono ?_
  rintro e w2 ⟨hb2, hcs⟩
  replace HB := Aside0.mk (below_then HB.out HB.out.size hb2)
  replace HW := Aside0.mk (Kd.C_below HW.out hb2)
  clear hb2
  rcases hcs with ⟨hne, rfl⟩ | ⟨h0, p, rfl, hH⟩
  · have HNE := Aside0.mk hne
    obtain ⟨r, HR⟩ : ∃ r, Aside0 (newErr N arcs L = r) := ⟨_, ⟨rfl⟩⟩
    rw [HR.out] at hne ⊢
    go_wp2
    go_ret2
    exact ⟨HB.out, .inl ⟨.inl HNE.out, rfl⟩⟩
  · obtain ⟨n, rfl, hn, hk⟩ := hk_of (by omega) h0
    rw [Int.toNat_natCast] at hH
    have HH := Aside0.mk (show HierOf w2 p n arcs L from hH)
    have HK := Aside0.mk hk
    have H0 := Aside0.mk h0
    have hn1 : n ≤ 100 := by omega
    clear hH hk h0 hN hn
    go_wp2_with (fail)
    refine (custom_New.of HK.out hn1 HH.out hal HW.out HWC.out hwl).mono ?_
    rintro e w3 ⟨hb3, hcs⟩
    replace HB := Aside0.mk (below_then HB.out HB.out.size hb3)
    rcases hcs with ⟨hne, rfl⟩ | ⟨h0, q, o, wv, uv, dv, Ba, va, rfl, hM⟩
    · have HNE := Aside0.mk hne
      clear hb3
      obtain ⟨r, HR⟩ : ∃ r, Aside0 (dchk (n : Int) arcs ws = r) := ⟨_, ⟨rfl⟩⟩
      rw [HR.out] at hne ⊢
      go_wp2
      go_ret2
      exact ⟨HB.out, .inl ⟨.inr HNE.out, rfl⟩⟩
    · have HM := Aside0.mk (show MetH w3 q p n arcs L ws from ⟨w2, o, wv, uv, dv, Ba, va, HH.out, hb3, hM⟩)
      have HD := Aside0.mk h0
      clear hb3 hM h0
      go_wp2_with (fail)
      refine (Metric_Hier.calls (HM.out.reads HK.out (by omega))).mono ?_
      rintro e w4 ⟨rfl, rfl⟩
      go_wp2
      go_ret2
      exact ⟨HB.out, .inr ⟨H0.out, HD.out, q, p, rfl, by rw [Int.toNat_natCast]; exact HM.out⟩⟩
theorem exS_eq : sdS 4 exA [0, 1, 2, 3] [1, 1, 1, 1] = ([1, 1152921504606846976, 1, 1152921504606846976, 1], [1152921504606846976, 1, 1152921504606846976, 2, 3]) := by kernel_rfl
theorem exD_eq : dchk 4 exA [1, 1, 1, 1] = 0 := by kernel_rfl
set_option maxHeartbeats 3200000 in
set_option maxRecDepth 100000 in
theorem mapmakerlaw41_lives.calls (w : World) : Calls Try.prog 35 #[] w fun e w' => e = .returned (.bool true) ∧ Below w.heap.size w w' := by
  go_enter Try.func35, Try.ntmps35
  go_wp2_with (fail)
  have hA : (w.alloc (Obj.cells #[.int .i64 0, .int .i64 1, .int .i64 1, .int .i64 2, .int .i64 2, .int .i64 3, .int .i64 3, .int .i64 0] 38)).heap[w.heap.size]? = _ := heap_alloc_new w _
  have s1 : (w.alloc (Obj.cells #[.int .i64 0, .int .i64 1, .int .i64 1, .int .i64 2, .int .i64 2, .int .i64 3, .int .i64 3, .int .i64 0] 38)).heap.size = w.heap.size + 1 := World.size_alloc ..
  have HB : Aside0 (Below w.heap.size w (w.alloc (Obj.cells #[.int .i64 0, .int .i64 1, .int .i64 1, .int .i64 2, .int .i64 2, .int .i64 3, .int .i64 3, .int .i64 0] 38))) := ⟨(Below.refl _ _).alloc (Nat.le_refl _) _⟩
  have HA := Aside0.mk (C_litA (l := exA) hA rfl (by decide))
  clear hA
  generalize w.alloc (Obj.cells #[.int .i64 0, .int .i64 1, .int .i64 1, .int .i64 2, .int .i64 2, .int .i64 3, .int .i64 3, .int .i64 0] 38) = w1 at HA HB s1 ⊢
  have s2 : (w1.alloc (Obj.cells #[.int .i64 4, .slice (some ⟨w.heap.size, 0, none⟩) 4 4] 24)).heap.size = w.heap.size + 1 + 1 := by rw [World.size_alloc, s1]
  have hb : Below w1.heap.size w1 (w1.alloc (Obj.cells #[.int .i64 4, .slice (some ⟨w.heap.size, 0, none⟩) 4 4] 24)) := (Below.refl _ _).alloc (Nat.le_refl _) _
  replace HA := Aside0.mk (Kd.C_below HA.out hb)
  replace HB := Aside0.mk (below_then HB.out HB.out.size hb)
  clear hb s1
  generalize w1.alloc (Obj.cells #[.int .i64 4, .slice (some ⟨w.heap.size, 0, none⟩) 4 4] 24) = w2 at HA HB s2 ⊢
  have s3 : (w2.alloc (Obj.cells #[.int .i64 0, .int .i64 1, .int .i64 2, .int .i64 3] 3)).heap.size = w.heap.size + 1 + 1 + 1 := by rw [World.size_alloc, s2]
  have hb : Below w2.heap.size w2 (w2.alloc (Obj.cells #[.int .i64 0, .int .i64 1, .int .i64 2, .int .i64 3] 3)) := (Below.refl _ _).alloc (Nat.le_refl _) _
  have HL := Aside0.mk (C_lit (l := [0, 1, 2, 3]) (heap_alloc_new w2 (Obj.cells #[.int .i64 0, .int .i64 1, .int .i64 2, .int .i64 3] 3)) rfl (by decide))
  rw [s2] at HL
  replace HA := Aside0.mk (Kd.C_below HA.out hb)
  replace HB := Aside0.mk (below_then HB.out HB.out.size hb)
  clear hb s2
  generalize w2.alloc (Obj.cells #[.int .i64 0, .int .i64 1, .int .i64 2, .int .i64 3] 3) = w3 at HA HB HL s3 ⊢
  have hb : Below w3.heap.size w3 (w3.alloc (Obj.cells #[.int .i64 1, .int .i64 1, .int .i64 1, .int .i64 1] 3)) := (Below.refl _ _).alloc (Nat.le_refl _) _
  have HW := Aside0.mk (C_lit (l := [1, 1, 1, 1]) (heap_alloc_new w3 (Obj.cells #[.int .i64 1, .int .i64 1, .int .i64 1, .int .i64 1] 3)) rfl (by decide))
  rw [s3] at HW
  replace HA := Aside0.mk (Kd.C_below HA.out hb)
  replace HL := Aside0.mk (Kd.C_below HL.out hb)
  replace HB := Aside0.mk (below_then HB.out HB.out.size hb)
  clear hb s3
  generalize w3.alloc (Obj.cells #[.int .i64 1, .int .i64 1, .int .i64 1, .int .i64 1] 3) = w4 at HA HB HL HW ⊢
  refine (law41_Setup.calls (N := 4) (arcs := exA) (L := [0, 1, 2, 3]) (ws := [1, 1, 1, 1]) HA.out (by decide) HL.out (by decide) HW.out (by decide) (by decide) (by decide) (by decide) (by decide)).mono ?_
  rintro e w5 ⟨hb5, (⟨hne, _⟩ | ⟨_, _, q, p, rfl, hM⟩)⟩
  · rcases hne with hne | hne
    · exact absurd (show newErr 4 exA [0, 1, 2, 3] = 0 by kernel_rfl) hne
    · exact absurd exD_eq hne
  have HM := Aside0.mk (show MetH w5 q p 4 exA [0, 1, 2, 3] [1, 1, 1, 1] from hM)
  replace HB := Aside0.mk (below_then HB.out HB.out.size hb5)
  clear hb5 hM HA HL HW
  go_wp2_with (fail)
  refine (Metric_Hier.calls (HM.out.reads exHk (by decide))).mono ?_
  rintro e w6 ⟨rfl, rfl⟩
  go_wp2_with (fail)
  refine (Hier_Find.calls HM.out.hier exHk.lenR 1 3).mono ?_
  rintro e w7 ⟨he, hb7⟩
  have he' : e = .returned (.tuple #[.int .i64 3, .bool true]) := he.trans (by kernel_rfl)
  clear he
  subst he'
  replace HM := Aside0.mk (HM.out.below hb7)
  replace HB := Aside0.mk (below_then HB.out HB.out.size hb7)
  clear hb7
  go_wp2_with (fail)
  refine (Metric_Down.calls (HM.out.reads exHk (by decide)) 3).mono ?_
  rintro e w8 ⟨he, rfl⟩
  have he' : e = .returned (.int .i64 2) := he.trans (by rw [exS_eq]; kernel_rfl)
  clear he
  subst he'
  go_wp2_with (fail)
  refine (Metric_Up.calls (HM.out.reads exHk (by decide)) 3).mono ?_
  rintro e w9 ⟨he, rfl⟩
  have he' : e = .returned (.int .i64 1152921504606846976) := he.trans (by rw [exS_eq]; kernel_rfl)
  clear he
  subst he'
  go_wp2_with (fail)
  refine (Metric_Up.calls (HM.out.reads exHk (by decide)) 99).mono ?_
  rintro e w10 ⟨he, rfl⟩
  have he' : e = .returned (.int .i64 1152921504606846976) := he.trans (by rw [exS_eq]; kernel_rfl)
  clear he
  subst he'
  go_wp2
  go_ret
  exact ⟨rfl, HB.out⟩
end Go.Proofs.Ytcfeehaoeaoegaa.Print
