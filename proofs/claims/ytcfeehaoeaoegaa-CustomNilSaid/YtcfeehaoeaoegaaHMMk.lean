/- The region of custom.New that makes a metric: one call and three makes beside it, in any order. Printed by gen_hmmk.py. -/
import Derived.Test.YtcfeehaoeaoegaaHKNewR
import Derived.Test.YtcfeehaoeaoegaaHMMet
import Derived.Test.YtcfeehaoeaoegaaF63
namespace Go.Proofs.Ytcfeehaoeaoegaa.Print
open Go.RowKit Go.Proofs.YtcfeehaoeaoegaaW.PrintWords Go.Proofs.YtcfeehaoeaoegaaW.PrintLast Go.Proofs.YtcfeehaoeaoegaaW.PrintMore
set_option linter.unusedVariables false
set_option linter.unusedSimpArgs false

theorem infoInt1 : (Try.prog.info? 3).map (fun i => (i.zero, i.size, i.bytes)) = some (some (.int .i64 0), 1, 8) := by kernel_rfl
abbrev zeroInts (n : Nat) : Array Value := madeCells #[.int .i64 0] n
theorem run_zeroInts (n : Nat) (hn : n ≤ 2000000) (w : World) : (Instr.makeSlice 25 (.int .i64 (n : Int)) (.int .i64 (n : Int))).run Try.prog w = .ok (.slice (some ⟨w.heap.size, 0, none⟩) n n) (w.alloc (.cells (zeroInts n) 3 (0, 0))) := by
  obtain ⟨i, h1, hh⟩ := Option.map_eq_some_iff.1 infoInt1
  simp only [Prod.mk.injEq] at hh
  obtain ⟨h2, h3, h4⟩ := hh
  have := run_makeSlice (P := Try.prog) w 25 3 i (.int .i64 0) Try.underlying25 h1 h2 .i64 .i64 n n (by omega) (by omega) (by rw [h3]; simp; omega) (by rw [h4]; omega) (by omega)
  rw [this, h3]
  simp [zeroInts, Value.cells]
theorem zero_row (w : World) (base n : Nat) (ok : Nat → Prop) (hb : base ≤ w.heap.size) (hn : n ≤ 2000000) (hok : ok w.heap.size) : Kd.R (Kd.int .i64) 3 (w.alloc (.cells (zeroInts n) 3 (0, 0))) base ok (.slice (some ⟨w.heap.size, 0, none⟩) n n) (List.replicate n 0) :=
  Kd.R_of_own (enc := Value.int .i64) (by
    have h := own_made w base 3 .i64 n hb (by omega)
    rw [List.length_replicate]
    exact h) (fun k hk => by
    have e : w.heap.size = k := by simpa [Value.ownBlock] using hk
    subst e
    exact hok)
theorem copied_f {l : List Int} (hl : l.length ≤ 1000000) : custom_copied.f l = some l := by
  unfold custom_copied.f
  rw [if_pos (by omega), if_pos (by rw [Int.toNat_natCast]; omega), Int.toNat_natCast]
  congr 1
  unfold copyL
  simp
/-- What stands of a metric that is being made. -/
structure MkInv (W0 w : World) (base : Nat) (o : Tags) (wA : Option Addr) (wc : Nat) (ws : List Int) (m : Nat) (bc ba bu bd : Bool) (x29 x32 x35 x38 : Value) : Prop where
  cW : Kd.C (Kd.int .i64) w wA ws.length ws
  blo : base ≤ w.heap.size
  bel : Below base W0 w
  bw : base ≤ W0.heap.size
  low : ∀ k, k < base → o k = (0, 0)
  hC : bc = true → Kd.R (Kd.int .i64) 3 w base (fun j => o j = (1, 0)) x29 ws
  hA : ba = true → ∃ B, x32 = .slice (some ⟨B, 0, none⟩) m m ∧ w.heap[B]? = some (.cells (nilRows m) 25 (0, 0)) ∧ o B = (4, 0) ∧ base ≤ B
  hU : bu = true → ∃ B, x35 = .slice (some ⟨B, 0, none⟩) m m ∧ Kd.R (Kd.int .i64) 3 w base (fun j => o j = (2, 0)) x35 (List.replicate m 0)
  hD : bd = true → ∃ B, x38 = .slice (some ⟨B, 0, none⟩) m m ∧ Kd.R (Kd.int .i64) 3 w base (fun j => o j = (3, 0)) x38 (List.replicate m 0)
section
variable {W0 w w1 : World} {base : Nat} {o : Tags} {wA : Option Addr} {wc : Nat} {ws : List Int} {m : Nat} {bc ba bu bd : Bool} {x29 x32 x35 x38 : Value}
theorem MkInv.move (h : MkInv W0 w base o wA wc ws m bc ba bu bd x29 x32 x35 x38) (hb : Below w.heap.size w w1) (t : Nat × Nat) : MkInv W0 w1 base (tagNew o w.heap.size t) wA wc ws m bc ba bu bd x29 x32 x35 x38 := by
  refine ⟨Kd.C_below h.cW hb, Nat.le_trans h.blo hb.size, below_more h.bel h.bw hb, h.bw, fun j hj => ?_, fun hk => ?_, fun hk => ?_, fun hk => ?_, fun hk => ?_⟩
  · rw [tagNew_old (by have := h.blo; omega)]
    exact h.low j hj
  · have h1 := h.hC hk
    exact Kd.R_below (Kd.R_reok rfl h1 (fun j hj => by rw [tagNew_old (Kd.R_lt h1 j hj)]; exact h1.1 j hj)) hb
  · obtain ⟨B, e, hm, ht, hl⟩ := h.hA hk
    exact ⟨B, e, (hb.block B (hblk_lt hm)).trans hm, by rw [tagNew_old (hblk_lt hm)]; exact ht, hl⟩
  · obtain ⟨B, e, h1⟩ := h.hU hk
    exact ⟨B, e, Kd.R_below (Kd.R_reok rfl h1 (fun j hj => by rw [tagNew_old (Kd.R_lt h1 j hj)]; exact h1.1 j hj)) hb⟩
  · obtain ⟨B, e, h1⟩ := h.hD hk
    exact ⟨B, e, Kd.R_below (Kd.R_reok rfl h1 (fun j hj => by rw [tagNew_old (Kd.R_lt h1 j hj)]; exact h1.1 j hj)) hb⟩
theorem MkInv.putC (h : MkInv W0 w base o wA wc ws m false ba bu bd x29 x32 x35 x38) (hb : Below w.heap.size w w1) {v : Value} (hr : Kd.R (Kd.int .i64) 3 w1 w.heap.size (fun _ => True) v ws) : MkInv W0 w1 base (tagNew o w.heap.size (1, 0)) wA wc ws m true ba bu bd v x32 x35 x38 := by
  have h1 := h.move hb (1, 0)
  exact ⟨h1.cW, h1.blo, h1.bel, h1.bw, h1.low, fun _ => newR rfl hr h.blo, h1.hA, h1.hU, h1.hD⟩
theorem MkInv.putA (h : MkInv W0 w base o wA wc ws m bc false bu bd x29 x32 x35 x38) : MkInv W0 (w.alloc (.cells (nilRows m) 25 (0, 0))) base (tagNew o w.heap.size (4, 0)) wA wc ws m bc true bu bd x29 (.slice (some ⟨w.heap.size, 0, none⟩) m m) x35 x38 := by
  have h1 := h.move (w1 := w.alloc (.cells (nilRows m) 25 (0, 0))) ((Below.refl _ _).alloc (Nat.le_refl _) _) (4, 0)
  exact ⟨h1.cW, h1.blo, h1.bel, h1.bw, h1.low, h1.hC, fun _ => ⟨_, rfl, heap_alloc_new w _, tagNew_new (Nat.le_refl _), h.blo⟩, h1.hU, h1.hD⟩
theorem MkInv.putU (h : MkInv W0 w base o wA wc ws m bc ba false bd x29 x32 x35 x38) (hm : m ≤ 2000000) : MkInv W0 (w.alloc (.cells (zeroInts m) 3 (0, 0))) base (tagNew o w.heap.size (2, 0)) wA wc ws m bc ba true bd x29 x32 (.slice (some ⟨w.heap.size, 0, none⟩) m m) x38 := by
  have h1 := h.move (w1 := w.alloc (.cells (zeroInts m) 3 (0, 0))) ((Below.refl _ _).alloc (Nat.le_refl _) _) (2, 0)
  exact ⟨h1.cW, h1.blo, h1.bel, h1.bw, h1.low, h1.hC, h1.hA, fun _ => ⟨_, rfl, zero_row w base m _ h.blo hm (tagNew_new (Nat.le_refl _))⟩, h1.hD⟩
theorem MkInv.putD (h : MkInv W0 w base o wA wc ws m bc ba bu false x29 x32 x35 x38) (hm : m ≤ 2000000) : MkInv W0 (w.alloc (.cells (zeroInts m) 3 (0, 0))) base (tagNew o w.heap.size (3, 0)) wA wc ws m bc ba bu true x29 x32 x35 (.slice (some ⟨w.heap.size, 0, none⟩) m m) := by
  have h1 := h.move (w1 := w.alloc (.cells (zeroInts m) 3 (0, 0))) ((Below.refl _ _).alloc (Nat.le_refl _) _) (3, 0)
  exact ⟨h1.cW, h1.blo, h1.bel, h1.bw, h1.low, h1.hC, h1.hA, h1.hU, fun _ => ⟨_, rfl, zero_row w base m _ h.blo hm (tagNew_new (Nat.le_refl _))⟩⟩
end
/-- The frame. -/
def mkF (y : Nat → Value) (p m : Nat) (wv ev x29 x32 x35 x38 : Value) : Act := { tmps := #[.pointer (some ⟨p, 0, none⟩), wv, y 2, y 3, y 4, y 5, y 6, y 7, ev, y 9, y 10, y 11, y 12, y 13, y 14, y 15, y 16, y 17, y 18, y 19, y 20, y 21, y 22, y 23, y 24, y 25, y 26, .pointer (some ⟨p, 0, none⟩), wv, x29, ev, .int .i64 (m : Int), x32, ev, .int .i64 (m : Int), x35, ev, .int .i64 (m : Int), x38, undef, undef, undef, undef, undef, undef, undef, undef, undef, undef, undef, undef, undef, undef, undef, undef, undef, undef, undef, undef, undef, undef, undef, undef, undef, undef, undef, undef, undef, undef, undef, undef, undef, undef, undef, undef, undef, undef, undef, undef, undef, undef, undef, undef, undef, undef, undef, undef, undef, undef, undef, undef, undef, undef, undef, undef, undef, undef, undef, undef, undef, undef], defers := [] }
def MkFin (Q : Exit → Act → World → Prop) (W0 : World) (y : Nat → Value) (base p m : Nat) (wA : Option Addr) (wc : Nat) (ws : List Int) (wv ev : Value) : Prop :=
  ∀ (w : World) (o : Tags) (v29 v32 v35 v38 : Value), MkInv W0 w base o wA wc ws m true true true true v29 v32 v35 v38 → Q .normal { tmps := #[.pointer (some ⟨p, 0, none⟩), wv, y 2, y 3, y 4, y 5, y 6, y 7, ev, .pointer (some ⟨w.heap.size, 0, none⟩), y 10, y 11, y 12, y 13, y 14, y 15, y 16, y 17, y 18, y 19, y 20, y 21, y 22, y 23, y 24, y 25, y 26, .pointer (some ⟨p, 0, none⟩), wv, v29, ev, .int .i64 (m : Int), v32, ev, .int .i64 (m : Int), v35, ev, .int .i64 (m : Int), v38, .agg #[.pointer (some ⟨p, 0, none⟩), v29, v32, v35, v38], .pointer (some ⟨w.heap.size, 0, none⟩), undef, undef, undef, undef, undef, undef, undef, undef, undef, undef, undef, undef, undef, undef, undef, undef, undef, undef, undef, undef, undef, undef, undef, undef, undef, undef, undef, undef, undef, undef, undef, undef, undef, undef, undef, undef, undef, undef, undef, undef, undef, undef, undef, undef, undef, undef, undef, undef, undef, undef, undef, undef, undef, undef, undef, undef, undef, undef, undef, undef], defers := [] } (w.alloc (.cells #[.pointer (some ⟨p, 0, none⟩), v29, v32, v35, v38] 95 (0, 0)))

section
variable {Q : Exit → Act → World → Prop} {W0 : World} {base p m : Nat} {wA : Option Addr} {wc : Nat} {ws : List Int} {eA : Option Addr} {ec : Nat} {y : Nat → Value}
variable (hm : m ≤ 20000) (hwl : ws.length ≤ 1000000) (hwc : ws.length ≤ wc) (hQ : ∀ (c : List PanicEntry) (a : Act) (w : World) (d : Option Tmp) (v : Value), Q (.panic c) (a.put d v) w → Q (.panic c) a w)

include hm hwl hwc hQ in
set_option maxHeartbeats 1600000 in
set_option maxRecDepth 100000 in
theorem mst_1111 (hfin : MkFin Q W0 y base p m wA wc ws (.slice wA ws.length wc) (.slice eA m ec)) {w : World} {o : Tags} {x29 x32 x35 x38 : Value} (h : MkInv W0 w base o wA wc ws m true true true true x29 x32 x35 x38) : wpAnyLast Try.prog .any (regOps (codeL (codeR (codeR (codeR (codeR (codeR (Try.f40.body.getD .skip)))))))) Q (fun _ => True) [] 3 (bits 15 4095) (mkF y p m (.slice wA ws.length wc) (.slice eA m ec) x29 x32 x35 x38) w := by
  simp only [Try.f40, Option.getD_some, codeR, codeL, regOps, mkF]
  have _ := hm; have _ := hwl; have _ := hwc; have _ := hQ
  obtain ⟨Ba, rfl, _⟩ := h.hA rfl
  obtain ⟨Bu, rfl, _⟩ := h.hU rfl
  obtain ⟨Bd, rfl, _⟩ := h.hD rfl
  obtain ⟨A9, c9, e9⟩ := Kd.R_slice (h.hC rfl); subst e9
  refine p_ 12 39 ?_ (hQ := fun c a w h => hQ c a w _ _ h)
  refine o_ 13 40 (fun K hK => ?_)
  refine value_ (w1 := ?_) (v := ?_) (by rfl) rfl ?_ ?_; rotate_left 2; (·go_simp; constructor; (·rfl); (·rfl))
  refine hK.out _ _ trivial (fun _ => ?_)
  refine n_ 40 ?_
  refine p_ 14 9 ?_ (hQ := fun c a w h => hQ c a w _ _ h)
  refine d_ ?_
  unfold MkFin at hfin
  exact hfin _ _ _ _ _ _ h

include hm hwl hwc hQ in
set_option maxHeartbeats 1600000 in
set_option maxRecDepth 100000 in
theorem mst_0111 (hfin : MkFin Q W0 y base p m wA wc ws (.slice wA ws.length wc) (.slice eA m ec)) {w : World} {o : Tags} {x29 x32 x35 x38 : Value} (h : MkInv W0 w base o wA wc ws m false true true true x29 x32 x35 x38) : wpAnyLast Try.prog .any (regOps (codeL (codeR (codeR (codeR (codeR (codeR (Try.f40.body.getD .skip)))))))) Q (fun _ => True) [] 4 (bits 15 4091) (mkF y p m (.slice wA ws.length wc) (.slice eA m ec) x29 x32 x35 x38) w := by
  simp only [Try.f40, Option.getD_some, codeR, codeL, regOps, mkF]
  have _ := hm; have _ := hwl; have _ := hwc; have _ := hQ
  refine ready_ (rs := [2]) (by kernel_rfl) (by decide) ?_
  refine m_ 2 29 (fun K hK => ?_) ?_; rotate_left
  exact AllReadyL.nil
  · refine goes_ Try.func63 (by kernel_rfl) rfl #[.slice wA ws.length wc] (by rfl) rfl rfl byL ?_
    refine (custom_copied.calls wA wc ws ws _ h.cW hwc (copied_f hwl)).mono ?_
    rintro e w1 ⟨v, rfl, hr, hb⟩
    refine ⟨_, rfl, ?_⟩
    have h' := h.putC hb hr
    refine hK.out _ _ trivial (fun _ => ?_)
    refine n_ 29 ?_
    exact mst_1111 hm hwl hwc hQ hfin h'

include hm hwl hwc hQ in
set_option maxHeartbeats 1600000 in
set_option maxRecDepth 100000 in
theorem mst_1011 (hfin : MkFin Q W0 y base p m wA wc ws (.slice wA ws.length wc) (.slice eA m ec)) {w : World} {o : Tags} {x29 x32 x35 x38 : Value} (h : MkInv W0 w base o wA wc ws m true false true true x29 x32 x35 x38) : wpAnyLast Try.prog .any (regOps (codeL (codeR (codeR (codeR (codeR (codeR (Try.f40.body.getD .skip)))))))) Q (fun _ => True) [] 4 (bits 15 4063) (mkF y p m (.slice wA ws.length wc) (.slice eA m ec) x29 x32 x35 x38) w := by
  simp only [Try.f40, Option.getD_some, codeR, codeL, regOps, mkF]
  have _ := hm; have _ := hwl; have _ := hwc; have _ := hQ
  refine ready_ (rs := [5]) (by kernel_rfl) (by decide) ?_
  refine m_ 5 32 (fun K hK => ?_) ?_; rotate_left
  exact AllReadyL.nil
  · refine value_ (w1 := ?_) (v := ?_) (by rfl) rfl ?_ ?_; rotate_left 2; (·have hmk := run_nilRows m hm; go_simp; constructor; (·rfl); (·rfl))
    have h' := h.putA
    refine hK.out _ _ trivial (fun _ => ?_)
    refine n_ 32 ?_
    exact mst_1111 hm hwl hwc hQ hfin h'

include hm hwl hwc hQ in
set_option maxHeartbeats 1600000 in
set_option maxRecDepth 100000 in
theorem mst_1101 (hfin : MkFin Q W0 y base p m wA wc ws (.slice wA ws.length wc) (.slice eA m ec)) {w : World} {o : Tags} {x29 x32 x35 x38 : Value} (h : MkInv W0 w base o wA wc ws m true true false true x29 x32 x35 x38) : wpAnyLast Try.prog .any (regOps (codeL (codeR (codeR (codeR (codeR (codeR (Try.f40.body.getD .skip)))))))) Q (fun _ => True) [] 4 (bits 15 3839) (mkF y p m (.slice wA ws.length wc) (.slice eA m ec) x29 x32 x35 x38) w := by
  simp only [Try.f40, Option.getD_some, codeR, codeL, regOps, mkF]
  have _ := hm; have _ := hwl; have _ := hwc; have _ := hQ
  refine ready_ (rs := [8]) (by kernel_rfl) (by decide) ?_
  refine m_ 8 35 (fun K hK => ?_) ?_; rotate_left
  exact AllReadyL.nil
  · refine value_ (w1 := ?_) (v := ?_) (by rfl) rfl ?_ ?_; rotate_left 2; (·have hmk := run_zeroInts m (by omega); go_simp; constructor; (·rfl); (·rfl))
    have h' := h.putU (by omega)
    refine hK.out _ _ trivial (fun _ => ?_)
    refine n_ 35 ?_
    exact mst_1111 hm hwl hwc hQ hfin h'

include hm hwl hwc hQ in
set_option maxHeartbeats 1600000 in
set_option maxRecDepth 100000 in
theorem mst_1110 (hfin : MkFin Q W0 y base p m wA wc ws (.slice wA ws.length wc) (.slice eA m ec)) {w : World} {o : Tags} {x29 x32 x35 x38 : Value} (h : MkInv W0 w base o wA wc ws m true true true false x29 x32 x35 x38) : wpAnyLast Try.prog .any (regOps (codeL (codeR (codeR (codeR (codeR (codeR (Try.f40.body.getD .skip)))))))) Q (fun _ => True) [] 4 (bits 15 2047) (mkF y p m (.slice wA ws.length wc) (.slice eA m ec) x29 x32 x35 x38) w := by
  simp only [Try.f40, Option.getD_some, codeR, codeL, regOps, mkF]
  have _ := hm; have _ := hwl; have _ := hwc; have _ := hQ
  refine ready_ (rs := [11]) (by kernel_rfl) (by decide) ?_
  refine m_ 11 38 (fun K hK => ?_) ?_; rotate_left
  exact AllReadyL.nil
  · refine value_ (w1 := ?_) (v := ?_) (by rfl) rfl ?_ ?_; rotate_left 2; (·have hmk := run_zeroInts m (by omega); go_simp; constructor; (·rfl); (·rfl))
    have h' := h.putD (by omega)
    refine hK.out _ _ trivial (fun _ => ?_)
    refine n_ 38 ?_
    exact mst_1111 hm hwl hwc hQ hfin h'

include hm hwl hwc hQ in
set_option maxHeartbeats 1600000 in
set_option maxRecDepth 100000 in
theorem mst_0011 (hfin : MkFin Q W0 y base p m wA wc ws (.slice wA ws.length wc) (.slice eA m ec)) {w : World} {o : Tags} {x29 x32 x35 x38 : Value} (h : MkInv W0 w base o wA wc ws m false false true true x29 x32 x35 x38) : wpAnyLast Try.prog .any (regOps (codeL (codeR (codeR (codeR (codeR (codeR (Try.f40.body.getD .skip)))))))) Q (fun _ => True) [] 5 (bits 15 4059) (mkF y p m (.slice wA ws.length wc) (.slice eA m ec) x29 x32 x35 x38) w := by
  simp only [Try.f40, Option.getD_some, codeR, codeL, regOps, mkF]
  have _ := hm; have _ := hwl; have _ := hwc; have _ := hQ
  refine ready_ (rs := [2, 5]) (by kernel_rfl) (by decide) ?_
  refine m_ 2 29 (fun K hK => ?_) ?_; rotate_left
  refine m_ 5 32 (fun K hK => ?_) ?_; rotate_left
  exact AllReadyL.nil
  · refine goes_ Try.func63 (by kernel_rfl) rfl #[.slice wA ws.length wc] (by rfl) rfl rfl byL ?_
    refine (custom_copied.calls wA wc ws ws _ h.cW hwc (copied_f hwl)).mono ?_
    rintro e w1 ⟨v, rfl, hr, hb⟩
    refine ⟨_, rfl, ?_⟩
    have h' := h.putC hb hr
    refine hK.out _ _ trivial (fun _ => ?_)
    refine n_ 29 ?_
    exact mst_1011 hm hwl hwc hQ hfin h'
  · refine value_ (w1 := ?_) (v := ?_) (by rfl) rfl ?_ ?_; rotate_left 2; (·have hmk := run_nilRows m hm; go_simp; constructor; (·rfl); (·rfl))
    have h' := h.putA
    refine hK.out _ _ trivial (fun _ => ?_)
    refine n_ 32 ?_
    exact mst_0111 hm hwl hwc hQ hfin h'

include hm hwl hwc hQ in
set_option maxHeartbeats 1600000 in
set_option maxRecDepth 100000 in
theorem mst_0101 (hfin : MkFin Q W0 y base p m wA wc ws (.slice wA ws.length wc) (.slice eA m ec)) {w : World} {o : Tags} {x29 x32 x35 x38 : Value} (h : MkInv W0 w base o wA wc ws m false true false true x29 x32 x35 x38) : wpAnyLast Try.prog .any (regOps (codeL (codeR (codeR (codeR (codeR (codeR (Try.f40.body.getD .skip)))))))) Q (fun _ => True) [] 5 (bits 15 3835) (mkF y p m (.slice wA ws.length wc) (.slice eA m ec) x29 x32 x35 x38) w := by
  simp only [Try.f40, Option.getD_some, codeR, codeL, regOps, mkF]
  have _ := hm; have _ := hwl; have _ := hwc; have _ := hQ
  refine ready_ (rs := [2, 8]) (by kernel_rfl) (by decide) ?_
  refine m_ 2 29 (fun K hK => ?_) ?_; rotate_left
  refine m_ 8 35 (fun K hK => ?_) ?_; rotate_left
  exact AllReadyL.nil
  · refine goes_ Try.func63 (by kernel_rfl) rfl #[.slice wA ws.length wc] (by rfl) rfl rfl byL ?_
    refine (custom_copied.calls wA wc ws ws _ h.cW hwc (copied_f hwl)).mono ?_
    rintro e w1 ⟨v, rfl, hr, hb⟩
    refine ⟨_, rfl, ?_⟩
    have h' := h.putC hb hr
    refine hK.out _ _ trivial (fun _ => ?_)
    refine n_ 29 ?_
    exact mst_1101 hm hwl hwc hQ hfin h'
  · refine value_ (w1 := ?_) (v := ?_) (by rfl) rfl ?_ ?_; rotate_left 2; (·have hmk := run_zeroInts m (by omega); go_simp; constructor; (·rfl); (·rfl))
    have h' := h.putU (by omega)
    refine hK.out _ _ trivial (fun _ => ?_)
    refine n_ 35 ?_
    exact mst_0111 hm hwl hwc hQ hfin h'

include hm hwl hwc hQ in
set_option maxHeartbeats 1600000 in
set_option maxRecDepth 100000 in
theorem mst_0110 (hfin : MkFin Q W0 y base p m wA wc ws (.slice wA ws.length wc) (.slice eA m ec)) {w : World} {o : Tags} {x29 x32 x35 x38 : Value} (h : MkInv W0 w base o wA wc ws m false true true false x29 x32 x35 x38) : wpAnyLast Try.prog .any (regOps (codeL (codeR (codeR (codeR (codeR (codeR (Try.f40.body.getD .skip)))))))) Q (fun _ => True) [] 5 (bits 15 2043) (mkF y p m (.slice wA ws.length wc) (.slice eA m ec) x29 x32 x35 x38) w := by
  simp only [Try.f40, Option.getD_some, codeR, codeL, regOps, mkF]
  have _ := hm; have _ := hwl; have _ := hwc; have _ := hQ
  refine ready_ (rs := [2, 11]) (by kernel_rfl) (by decide) ?_
  refine m_ 2 29 (fun K hK => ?_) ?_; rotate_left
  refine m_ 11 38 (fun K hK => ?_) ?_; rotate_left
  exact AllReadyL.nil
  · refine goes_ Try.func63 (by kernel_rfl) rfl #[.slice wA ws.length wc] (by rfl) rfl rfl byL ?_
    refine (custom_copied.calls wA wc ws ws _ h.cW hwc (copied_f hwl)).mono ?_
    rintro e w1 ⟨v, rfl, hr, hb⟩
    refine ⟨_, rfl, ?_⟩
    have h' := h.putC hb hr
    refine hK.out _ _ trivial (fun _ => ?_)
    refine n_ 29 ?_
    exact mst_1110 hm hwl hwc hQ hfin h'
  · refine value_ (w1 := ?_) (v := ?_) (by rfl) rfl ?_ ?_; rotate_left 2; (·have hmk := run_zeroInts m (by omega); go_simp; constructor; (·rfl); (·rfl))
    have h' := h.putD (by omega)
    refine hK.out _ _ trivial (fun _ => ?_)
    refine n_ 38 ?_
    exact mst_0111 hm hwl hwc hQ hfin h'

include hm hwl hwc hQ in
set_option maxHeartbeats 1600000 in
set_option maxRecDepth 100000 in
theorem mst_1001 (hfin : MkFin Q W0 y base p m wA wc ws (.slice wA ws.length wc) (.slice eA m ec)) {w : World} {o : Tags} {x29 x32 x35 x38 : Value} (h : MkInv W0 w base o wA wc ws m true false false true x29 x32 x35 x38) : wpAnyLast Try.prog .any (regOps (codeL (codeR (codeR (codeR (codeR (codeR (Try.f40.body.getD .skip)))))))) Q (fun _ => True) [] 5 (bits 15 3807) (mkF y p m (.slice wA ws.length wc) (.slice eA m ec) x29 x32 x35 x38) w := by
  simp only [Try.f40, Option.getD_some, codeR, codeL, regOps, mkF]
  have _ := hm; have _ := hwl; have _ := hwc; have _ := hQ
  refine ready_ (rs := [5, 8]) (by kernel_rfl) (by decide) ?_
  refine m_ 5 32 (fun K hK => ?_) ?_; rotate_left
  refine m_ 8 35 (fun K hK => ?_) ?_; rotate_left
  exact AllReadyL.nil
  · refine value_ (w1 := ?_) (v := ?_) (by rfl) rfl ?_ ?_; rotate_left 2; (·have hmk := run_nilRows m hm; go_simp; constructor; (·rfl); (·rfl))
    have h' := h.putA
    refine hK.out _ _ trivial (fun _ => ?_)
    refine n_ 32 ?_
    exact mst_1101 hm hwl hwc hQ hfin h'
  · refine value_ (w1 := ?_) (v := ?_) (by rfl) rfl ?_ ?_; rotate_left 2; (·have hmk := run_zeroInts m (by omega); go_simp; constructor; (·rfl); (·rfl))
    have h' := h.putU (by omega)
    refine hK.out _ _ trivial (fun _ => ?_)
    refine n_ 35 ?_
    exact mst_1011 hm hwl hwc hQ hfin h'

include hm hwl hwc hQ in
set_option maxHeartbeats 1600000 in
set_option maxRecDepth 100000 in
theorem mst_1010 (hfin : MkFin Q W0 y base p m wA wc ws (.slice wA ws.length wc) (.slice eA m ec)) {w : World} {o : Tags} {x29 x32 x35 x38 : Value} (h : MkInv W0 w base o wA wc ws m true false true false x29 x32 x35 x38) : wpAnyLast Try.prog .any (regOps (codeL (codeR (codeR (codeR (codeR (codeR (Try.f40.body.getD .skip)))))))) Q (fun _ => True) [] 5 (bits 15 2015) (mkF y p m (.slice wA ws.length wc) (.slice eA m ec) x29 x32 x35 x38) w := by
  simp only [Try.f40, Option.getD_some, codeR, codeL, regOps, mkF]
  have _ := hm; have _ := hwl; have _ := hwc; have _ := hQ
  refine ready_ (rs := [5, 11]) (by kernel_rfl) (by decide) ?_
  refine m_ 5 32 (fun K hK => ?_) ?_; rotate_left
  refine m_ 11 38 (fun K hK => ?_) ?_; rotate_left
  exact AllReadyL.nil
  · refine value_ (w1 := ?_) (v := ?_) (by rfl) rfl ?_ ?_; rotate_left 2; (·have hmk := run_nilRows m hm; go_simp; constructor; (·rfl); (·rfl))
    have h' := h.putA
    refine hK.out _ _ trivial (fun _ => ?_)
    refine n_ 32 ?_
    exact mst_1110 hm hwl hwc hQ hfin h'
  · refine value_ (w1 := ?_) (v := ?_) (by rfl) rfl ?_ ?_; rotate_left 2; (·have hmk := run_zeroInts m (by omega); go_simp; constructor; (·rfl); (·rfl))
    have h' := h.putD (by omega)
    refine hK.out _ _ trivial (fun _ => ?_)
    refine n_ 38 ?_
    exact mst_1011 hm hwl hwc hQ hfin h'

include hm hwl hwc hQ in
set_option maxHeartbeats 1600000 in
set_option maxRecDepth 100000 in
theorem mst_1100 (hfin : MkFin Q W0 y base p m wA wc ws (.slice wA ws.length wc) (.slice eA m ec)) {w : World} {o : Tags} {x29 x32 x35 x38 : Value} (h : MkInv W0 w base o wA wc ws m true true false false x29 x32 x35 x38) : wpAnyLast Try.prog .any (regOps (codeL (codeR (codeR (codeR (codeR (codeR (Try.f40.body.getD .skip)))))))) Q (fun _ => True) [] 5 (bits 15 1791) (mkF y p m (.slice wA ws.length wc) (.slice eA m ec) x29 x32 x35 x38) w := by
  simp only [Try.f40, Option.getD_some, codeR, codeL, regOps, mkF]
  have _ := hm; have _ := hwl; have _ := hwc; have _ := hQ
  refine ready_ (rs := [8, 11]) (by kernel_rfl) (by decide) ?_
  refine m_ 8 35 (fun K hK => ?_) ?_; rotate_left
  refine m_ 11 38 (fun K hK => ?_) ?_; rotate_left
  exact AllReadyL.nil
  · refine value_ (w1 := ?_) (v := ?_) (by rfl) rfl ?_ ?_; rotate_left 2; (·have hmk := run_zeroInts m (by omega); go_simp; constructor; (·rfl); (·rfl))
    have h' := h.putU (by omega)
    refine hK.out _ _ trivial (fun _ => ?_)
    refine n_ 35 ?_
    exact mst_1110 hm hwl hwc hQ hfin h'
  · refine value_ (w1 := ?_) (v := ?_) (by rfl) rfl ?_ ?_; rotate_left 2; (·have hmk := run_zeroInts m (by omega); go_simp; constructor; (·rfl); (·rfl))
    have h' := h.putD (by omega)
    refine hK.out _ _ trivial (fun _ => ?_)
    refine n_ 38 ?_
    exact mst_1101 hm hwl hwc hQ hfin h'

include hm hwl hwc hQ in
set_option maxHeartbeats 1600000 in
set_option maxRecDepth 100000 in
theorem mst_0001 (hfin : MkFin Q W0 y base p m wA wc ws (.slice wA ws.length wc) (.slice eA m ec)) {w : World} {o : Tags} {x29 x32 x35 x38 : Value} (h : MkInv W0 w base o wA wc ws m false false false true x29 x32 x35 x38) : wpAnyLast Try.prog .any (regOps (codeL (codeR (codeR (codeR (codeR (codeR (Try.f40.body.getD .skip)))))))) Q (fun _ => True) [] 6 (bits 15 3803) (mkF y p m (.slice wA ws.length wc) (.slice eA m ec) x29 x32 x35 x38) w := by
  simp only [Try.f40, Option.getD_some, codeR, codeL, regOps, mkF]
  have _ := hm; have _ := hwl; have _ := hwc; have _ := hQ
  refine ready_ (rs := [2, 5, 8]) (by kernel_rfl) (by decide) ?_
  refine m_ 2 29 (fun K hK => ?_) ?_; rotate_left
  refine m_ 5 32 (fun K hK => ?_) ?_; rotate_left
  refine m_ 8 35 (fun K hK => ?_) ?_; rotate_left
  exact AllReadyL.nil
  · refine goes_ Try.func63 (by kernel_rfl) rfl #[.slice wA ws.length wc] (by rfl) rfl rfl byL ?_
    refine (custom_copied.calls wA wc ws ws _ h.cW hwc (copied_f hwl)).mono ?_
    rintro e w1 ⟨v, rfl, hr, hb⟩
    refine ⟨_, rfl, ?_⟩
    have h' := h.putC hb hr
    refine hK.out _ _ trivial (fun _ => ?_)
    refine n_ 29 ?_
    exact mst_1001 hm hwl hwc hQ hfin h'
  · refine value_ (w1 := ?_) (v := ?_) (by rfl) rfl ?_ ?_; rotate_left 2; (·have hmk := run_nilRows m hm; go_simp; constructor; (·rfl); (·rfl))
    have h' := h.putA
    refine hK.out _ _ trivial (fun _ => ?_)
    refine n_ 32 ?_
    exact mst_0101 hm hwl hwc hQ hfin h'
  · refine value_ (w1 := ?_) (v := ?_) (by rfl) rfl ?_ ?_; rotate_left 2; (·have hmk := run_zeroInts m (by omega); go_simp; constructor; (·rfl); (·rfl))
    have h' := h.putU (by omega)
    refine hK.out _ _ trivial (fun _ => ?_)
    refine n_ 35 ?_
    exact mst_0011 hm hwl hwc hQ hfin h'

include hm hwl hwc hQ in
set_option maxHeartbeats 1600000 in
set_option maxRecDepth 100000 in
theorem mst_0010 (hfin : MkFin Q W0 y base p m wA wc ws (.slice wA ws.length wc) (.slice eA m ec)) {w : World} {o : Tags} {x29 x32 x35 x38 : Value} (h : MkInv W0 w base o wA wc ws m false false true false x29 x32 x35 x38) : wpAnyLast Try.prog .any (regOps (codeL (codeR (codeR (codeR (codeR (codeR (Try.f40.body.getD .skip)))))))) Q (fun _ => True) [] 6 (bits 15 2011) (mkF y p m (.slice wA ws.length wc) (.slice eA m ec) x29 x32 x35 x38) w := by
  simp only [Try.f40, Option.getD_some, codeR, codeL, regOps, mkF]
  have _ := hm; have _ := hwl; have _ := hwc; have _ := hQ
  refine ready_ (rs := [2, 5, 11]) (by kernel_rfl) (by decide) ?_
  refine m_ 2 29 (fun K hK => ?_) ?_; rotate_left
  refine m_ 5 32 (fun K hK => ?_) ?_; rotate_left
  refine m_ 11 38 (fun K hK => ?_) ?_; rotate_left
  exact AllReadyL.nil
  · refine goes_ Try.func63 (by kernel_rfl) rfl #[.slice wA ws.length wc] (by rfl) rfl rfl byL ?_
    refine (custom_copied.calls wA wc ws ws _ h.cW hwc (copied_f hwl)).mono ?_
    rintro e w1 ⟨v, rfl, hr, hb⟩
    refine ⟨_, rfl, ?_⟩
    have h' := h.putC hb hr
    refine hK.out _ _ trivial (fun _ => ?_)
    refine n_ 29 ?_
    exact mst_1010 hm hwl hwc hQ hfin h'
  · refine value_ (w1 := ?_) (v := ?_) (by rfl) rfl ?_ ?_; rotate_left 2; (·have hmk := run_nilRows m hm; go_simp; constructor; (·rfl); (·rfl))
    have h' := h.putA
    refine hK.out _ _ trivial (fun _ => ?_)
    refine n_ 32 ?_
    exact mst_0110 hm hwl hwc hQ hfin h'
  · refine value_ (w1 := ?_) (v := ?_) (by rfl) rfl ?_ ?_; rotate_left 2; (·have hmk := run_zeroInts m (by omega); go_simp; constructor; (·rfl); (·rfl))
    have h' := h.putD (by omega)
    refine hK.out _ _ trivial (fun _ => ?_)
    refine n_ 38 ?_
    exact mst_0011 hm hwl hwc hQ hfin h'

include hm hwl hwc hQ in
set_option maxHeartbeats 1600000 in
set_option maxRecDepth 100000 in
theorem mst_0100 (hfin : MkFin Q W0 y base p m wA wc ws (.slice wA ws.length wc) (.slice eA m ec)) {w : World} {o : Tags} {x29 x32 x35 x38 : Value} (h : MkInv W0 w base o wA wc ws m false true false false x29 x32 x35 x38) : wpAnyLast Try.prog .any (regOps (codeL (codeR (codeR (codeR (codeR (codeR (Try.f40.body.getD .skip)))))))) Q (fun _ => True) [] 6 (bits 15 1787) (mkF y p m (.slice wA ws.length wc) (.slice eA m ec) x29 x32 x35 x38) w := by
  simp only [Try.f40, Option.getD_some, codeR, codeL, regOps, mkF]
  have _ := hm; have _ := hwl; have _ := hwc; have _ := hQ
  refine ready_ (rs := [2, 8, 11]) (by kernel_rfl) (by decide) ?_
  refine m_ 2 29 (fun K hK => ?_) ?_; rotate_left
  refine m_ 8 35 (fun K hK => ?_) ?_; rotate_left
  refine m_ 11 38 (fun K hK => ?_) ?_; rotate_left
  exact AllReadyL.nil
  · refine goes_ Try.func63 (by kernel_rfl) rfl #[.slice wA ws.length wc] (by rfl) rfl rfl byL ?_
    refine (custom_copied.calls wA wc ws ws _ h.cW hwc (copied_f hwl)).mono ?_
    rintro e w1 ⟨v, rfl, hr, hb⟩
    refine ⟨_, rfl, ?_⟩
    have h' := h.putC hb hr
    refine hK.out _ _ trivial (fun _ => ?_)
    refine n_ 29 ?_
    exact mst_1100 hm hwl hwc hQ hfin h'
  · refine value_ (w1 := ?_) (v := ?_) (by rfl) rfl ?_ ?_; rotate_left 2; (·have hmk := run_zeroInts m (by omega); go_simp; constructor; (·rfl); (·rfl))
    have h' := h.putU (by omega)
    refine hK.out _ _ trivial (fun _ => ?_)
    refine n_ 35 ?_
    exact mst_0110 hm hwl hwc hQ hfin h'
  · refine value_ (w1 := ?_) (v := ?_) (by rfl) rfl ?_ ?_; rotate_left 2; (·have hmk := run_zeroInts m (by omega); go_simp; constructor; (·rfl); (·rfl))
    have h' := h.putD (by omega)
    refine hK.out _ _ trivial (fun _ => ?_)
    refine n_ 38 ?_
    exact mst_0101 hm hwl hwc hQ hfin h'

include hm hwl hwc hQ in
set_option maxHeartbeats 1600000 in
set_option maxRecDepth 100000 in
theorem mst_1000 (hfin : MkFin Q W0 y base p m wA wc ws (.slice wA ws.length wc) (.slice eA m ec)) {w : World} {o : Tags} {x29 x32 x35 x38 : Value} (h : MkInv W0 w base o wA wc ws m true false false false x29 x32 x35 x38) : wpAnyLast Try.prog .any (regOps (codeL (codeR (codeR (codeR (codeR (codeR (Try.f40.body.getD .skip)))))))) Q (fun _ => True) [] 6 (bits 15 1759) (mkF y p m (.slice wA ws.length wc) (.slice eA m ec) x29 x32 x35 x38) w := by
  simp only [Try.f40, Option.getD_some, codeR, codeL, regOps, mkF]
  have _ := hm; have _ := hwl; have _ := hwc; have _ := hQ
  refine ready_ (rs := [5, 8, 11]) (by kernel_rfl) (by decide) ?_
  refine m_ 5 32 (fun K hK => ?_) ?_; rotate_left
  refine m_ 8 35 (fun K hK => ?_) ?_; rotate_left
  refine m_ 11 38 (fun K hK => ?_) ?_; rotate_left
  exact AllReadyL.nil
  · refine value_ (w1 := ?_) (v := ?_) (by rfl) rfl ?_ ?_; rotate_left 2; (·have hmk := run_nilRows m hm; go_simp; constructor; (·rfl); (·rfl))
    have h' := h.putA
    refine hK.out _ _ trivial (fun _ => ?_)
    refine n_ 32 ?_
    exact mst_1100 hm hwl hwc hQ hfin h'
  · refine value_ (w1 := ?_) (v := ?_) (by rfl) rfl ?_ ?_; rotate_left 2; (·have hmk := run_zeroInts m (by omega); go_simp; constructor; (·rfl); (·rfl))
    have h' := h.putU (by omega)
    refine hK.out _ _ trivial (fun _ => ?_)
    refine n_ 35 ?_
    exact mst_1010 hm hwl hwc hQ hfin h'
  · refine value_ (w1 := ?_) (v := ?_) (by rfl) rfl ?_ ?_; rotate_left 2; (·have hmk := run_zeroInts m (by omega); go_simp; constructor; (·rfl); (·rfl))
    have h' := h.putD (by omega)
    refine hK.out _ _ trivial (fun _ => ?_)
    refine n_ 38 ?_
    exact mst_1001 hm hwl hwc hQ hfin h'

include hm hwl hwc hQ in
set_option maxHeartbeats 1600000 in
set_option maxRecDepth 100000 in
theorem mst_0000 (hfin : MkFin Q W0 y base p m wA wc ws (.slice wA ws.length wc) (.slice eA m ec)) {w : World} {o : Tags} {x29 x32 x35 x38 : Value} (h : MkInv W0 w base o wA wc ws m false false false false x29 x32 x35 x38) : wpAnyLast Try.prog .any (regOps (codeL (codeR (codeR (codeR (codeR (codeR (Try.f40.body.getD .skip)))))))) Q (fun _ => True) [] 7 (bits 15 1755) (mkF y p m (.slice wA ws.length wc) (.slice eA m ec) x29 x32 x35 x38) w := by
  simp only [Try.f40, Option.getD_some, codeR, codeL, regOps, mkF]
  have _ := hm; have _ := hwl; have _ := hwc; have _ := hQ
  refine ready_ (rs := [2, 5, 8, 11]) (by kernel_rfl) (by decide) ?_
  refine m_ 2 29 (fun K hK => ?_) ?_; rotate_left
  refine m_ 5 32 (fun K hK => ?_) ?_; rotate_left
  refine m_ 8 35 (fun K hK => ?_) ?_; rotate_left
  refine m_ 11 38 (fun K hK => ?_) ?_; rotate_left
  exact AllReadyL.nil
  · refine goes_ Try.func63 (by kernel_rfl) rfl #[.slice wA ws.length wc] (by rfl) rfl rfl byL ?_
    refine (custom_copied.calls wA wc ws ws _ h.cW hwc (copied_f hwl)).mono ?_
    rintro e w1 ⟨v, rfl, hr, hb⟩
    refine ⟨_, rfl, ?_⟩
    have h' := h.putC hb hr
    refine hK.out _ _ trivial (fun _ => ?_)
    refine n_ 29 ?_
    exact mst_1000 hm hwl hwc hQ hfin h'
  · refine value_ (w1 := ?_) (v := ?_) (by rfl) rfl ?_ ?_; rotate_left 2; (·have hmk := run_nilRows m hm; go_simp; constructor; (·rfl); (·rfl))
    have h' := h.putA
    refine hK.out _ _ trivial (fun _ => ?_)
    refine n_ 32 ?_
    exact mst_0100 hm hwl hwc hQ hfin h'
  · refine value_ (w1 := ?_) (v := ?_) (by rfl) rfl ?_ ?_; rotate_left 2; (·have hmk := run_zeroInts m (by omega); go_simp; constructor; (·rfl); (·rfl))
    have h' := h.putU (by omega)
    refine hK.out _ _ trivial (fun _ => ?_)
    refine n_ 35 ?_
    exact mst_0010 hm hwl hwc hQ hfin h'
  · refine value_ (w1 := ?_) (v := ?_) (by rfl) rfl ?_ ?_; rotate_left 2; (·have hmk := run_zeroInts m (by omega); go_simp; constructor; (·rfl); (·rfl))
    have h' := h.putD (by omega)
    refine hK.out _ _ trivial (fun _ => ?_)
    refine n_ 38 ?_
    exact mst_0001 hm hwl hwc hQ hfin h'

include hm hwl hwc hQ in
set_option maxHeartbeats 1600000 in
set_option maxRecDepth 100000 in
theorem mk_region {y2 y3 y4 y5 y6 y7 y9 y10 y11 y12 y13 y14 y15 y16 y17 y18 y19 y20 y21 y22 y23 y24 y25 y26 : Value} (hfin : MkFin Q W0 (fun i => match i with | 2 => y2 | 3 => y3 | 4 => y4 | 5 => y5 | 6 => y6 | 7 => y7 | 9 => y9 | 10 => y10 | 11 => y11 | 12 => y12 | 13 => y13 | 14 => y14 | 15 => y15 | 16 => y16 | 17 => y17 | 18 => y18 | 19 => y19 | 20 => y20 | 21 => y21 | 22 => y22 | 23 => y23 | 24 => y24 | 25 => y25 | 26 => y26 | _ => undef) base p m wA wc ws (.slice wA ws.length wc) (.slice eA m ec)) {w : World} {o : Tags} (h : MkInv W0 w.drew base o wA wc ws m false false false false undef undef undef undef) : (Code.region 8 (regOps (codeL (codeR (codeR (codeR (codeR (codeR (Try.f40.body.getD .skip)))))))) true).wp Try.prog Q { tmps := #[.pointer (some ⟨p, 0, none⟩), .slice wA ws.length wc, y2, y3, y4, y5, y6, y7, .slice eA m ec, y9, y10, y11, y12, y13, y14, y15, y16, y17, y18, y19, y20, y21, y22, y23, y24, y25, y26, undef, undef, undef, undef, undef, undef, undef, undef, undef, undef, undef, undef, undef, undef, undef, undef, undef, undef, undef, undef, undef, undef, undef, undef, undef, undef, undef, undef, undef, undef, undef, undef, undef, undef, undef, undef, undef, undef, undef, undef, undef, undef, undef, undef, undef, undef, undef, undef, undef, undef, undef, undef, undef, undef, undef, undef, undef, undef, undef, undef, undef, undef, undef, undef, undef, undef, undef, undef, undef, undef, undef, undef, undef, undef], defers := [] } w := by
  simp only [Try.f40, Option.getD_some, codeR, codeL, regOps]
  refine s_ (fun _ => True) [] trivial (fun hHeld => ?_)
  refine p_ 0 27 ?_ (hQ := fun c a w h => hQ c a w _ _ h)
  refine p_ 1 28 ?_ (hQ := fun c a w h => hQ c a w _ _ h)
  refine p_ 3 30 ?_ (hQ := fun c a w h => hQ c a w _ _ h)
  refine p_ 4 31 ?_ (hQ := fun c a w h => hQ c a w _ _ h)
  refine p_ 6 33 ?_ (hQ := fun c a w h => hQ c a w _ _ h)
  refine p_ 7 34 ?_ (hQ := fun c a w h => hQ c a w _ _ h)
  refine p_ 9 36 ?_ (hQ := fun c a w h => hQ c a w _ _ h)
  refine p_ 10 37 ?_ (hQ := fun c a w h => hQ c a w _ _ h)
  exact mst_0000 (y := fun i => match i with | 2 => y2 | 3 => y3 | 4 => y4 | 5 => y5 | 6 => y6 | 7 => y7 | 9 => y9 | 10 => y10 | 11 => y11 | 12 => y12 | 13 => y13 | 14 => y14 | 15 => y15 | 16 => y16 | 17 => y17 | 18 => y18 | 19 => y19 | 20 => y20 | 21 => y21 | 22 => y22 | 23 => y23 | 24 => y24 | 25 => y25 | 26 => y26 | _ => undef) hm hwl hwc hQ hfin h

end
end Go.Proofs.Ytcfeehaoeaoegaa.Print
