/- Several texts of this claim in one: HMMk, HMChk. -/
import Derived.Test.YtfnophaiamkmpaaHKNewR
import Derived.Test.YtfnophaiamkmpaaM11
import Derived.Test.YtfnophaiamkmpaaM3
import Derived.Test.YtfnophaiamkmpaaM0
import Derived.Test.YtfnophaiamkmpaaM1
namespace Go.Proofs.Ytfnophaiamkmpaa.Print
open Go.RowKit Go.Proofs.YtfnophaiamkmpaaW.PrintWords Go.Proofs.YtfnophaiamkmpaaW.PrintLast Go.Proofs.YtfnophaiamkmpaaW.PrintMore
set_option linter.unusedVariables false
set_option linter.unusedSimpArgs false
theorem infoInt1 : (Try.prog.info? 3).map (fun i => (i.zero, i.size, i.bytes)) = some (some (.int .i64 0), 1, 8) := by kernel_rfl
abbrev zeroInts (n : Nat) : Array Value := madeCells #[.int .i64 0] n
theorem run_zeroInts (n : Nat) (hn : n ≤ 2000000) (w : World) : (Instr.makeSlice 25 (.int .i64 (n : Int)) (.int .i64 (n : Int))).run Try.prog w = .ok (.slice (some ⟨w.heap.size, 0, none⟩) n n) (w.alloc (.cells (zeroInts n) 3 (0, 0))) := by
 obtain ⟨i, h1, hh⟩ := Option.map_eq_some_iff.1 infoInt1
 simp only [Prod.mk.injEq] at hh
 obtain ⟨h2, h3, h4⟩ := hh
 have := run_makeSlice (P := Try.prog) w 25 3 i (.int .i64 0) Try.underlying25 h1 h2 .i64 .i64 n n (by omega) (by omega) (by rw [h3]; simp; omega) (by rw [h4]; omega) (by omega)
 rw [this, h3]
 simp [zeroInts, Value.cells]
theorem zero_row (w : World) (base n : Nat) (ok : Nat → Prop) (hb : base ≤ w.heap.size) (hn : n ≤ 2000000) (hok : ok w.heap.size) : Kd.R (Kd.int .i64) 3 (w.alloc (.cells (zeroInts n) 3 (0, 0))) base ok (.slice (some ⟨w.heap.size, 0, none⟩) n n) (List.replicate n 0) :=
 Kd.R_of_own (enc := Value.int .i64) (by
  have h := own_made w base 3 .i64 n hb (by omega)
  rw [List.length_replicate]
  exact h) (fun k hk => by
  have e : w.heap.size = k := by simpa [Value.ownBlock] using hk
  subst e
  exact hok)
theorem copied_f {l : List Int} (hl : l.length ≤ 1000000) : custom_copied.f l = some l := by
 unfold custom_copied.f
 rw [if_pos (by omega), if_pos (by rw [Int.toNat_natCast]; omega), Int.toNat_natCast]
 congr 1
 unfold copyL
 simp
structure MkInv (W0 w : World) (base : Nat) (o : Tags) (wA : Option Addr) (wc : Nat) (ws : List Int) (m : Nat) (bc ba bu bd : Bool) (x29 x32 x35 x38 : Value) : Prop where
 cW : Kd.C (Kd.int .i64) w wA ws.length ws
 blo : base ≤ w.heap.size
 bel : Below base W0 w
 bw : base ≤ W0.heap.size
 low : ∀ k, k < base → o k = (0, 0)
 hC : bc = true → Kd.R (Kd.int .i64) 3 w base (fun j => o j = (1, 0)) x29 ws
 hA : ba = true → ∃ B, x32 = .slice (some ⟨B, 0, none⟩) m m ∧ w.heap[B]? = some (.cells (nilRows m) 25 (0, 0)) ∧ o B = (4, 0) ∧ base ≤ B
 hU : bu = true → ∃ B, x35 = .slice (some ⟨B, 0, none⟩) m m ∧ Kd.R (Kd.int .i64) 3 w base (fun j => o j = (2, 0)) x35 (List.replicate m 0)
 hD : bd = true → ∃ B, x38 = .slice (some ⟨B, 0, none⟩) m m ∧ Kd.R (Kd.int .i64) 3 w base (fun j => o j = (3, 0)) x38 (List.replicate m 0)
section
variable {W0 w w1 : World} {base : Nat} {o : Tags} {wA : Option Addr} {wc : Nat} {ws : List Int} {m : Nat} {bc ba bu bd : Bool} {x29 x32 x35 x38 : Value}
theorem MkInv.move (h : MkInv W0 w base o wA wc ws m bc ba bu bd x29 x32 x35 x38) (hb : Below w.heap.size w w1) (t : Nat × Nat) : MkInv W0 w1 base (tagNew o w.heap.size t) wA wc ws m bc ba bu bd x29 x32 x35 x38 := by
 refine ⟨Kd.C_below h.cW hb, Nat.le_trans h.blo hb.size, below_more h.bel h.bw hb, h.bw, fun j hj => ?_, fun hk => ?_, fun hk => ?_, fun hk => ?_, fun hk => ?_⟩
 ·rw [tagNew_old (by have := h.blo; omega)]
  exact h.low j hj
 ·have h1 := h.hC hk
  exact Kd.R_below (Kd.R_reok rfl h1 (fun j hj => by rw [tagNew_old (Kd.R_lt h1 j hj)]; exact h1.1 j hj)) hb
 ·obtain ⟨B, e, hm, ht, hl⟩ := h.hA hk
  exact ⟨B, e, (hb.block B (hblk_lt hm)).trans hm, by rw [tagNew_old (hblk_lt hm)]; exact ht, hl⟩
 ·obtain ⟨B, e, h1⟩ := h.hU hk
  exact ⟨B, e, Kd.R_below (Kd.R_reok rfl h1 (fun j hj => by rw [tagNew_old (Kd.R_lt h1 j hj)]; exact h1.1 j hj)) hb⟩
 ·obtain ⟨B, e, h1⟩ := h.hD hk
  exact ⟨B, e, Kd.R_below (Kd.R_reok rfl h1 (fun j hj => by rw [tagNew_old (Kd.R_lt h1 j hj)]; exact h1.1 j hj)) hb⟩
theorem MkInv.putC (h : MkInv W0 w base o wA wc ws m false ba bu bd x29 x32 x35 x38) (hb : Below w.heap.size w w1) {v : Value} (hr : Kd.R (Kd.int .i64) 3 w1 w.heap.size (fun _ => True) v ws) : MkInv W0 w1 base (tagNew o w.heap.size (1, 0)) wA wc ws m true ba bu bd v x32 x35 x38 := by
 have h1 := h.move hb (1, 0)
 exact ⟨h1.cW, h1.blo, h1.bel, h1.bw, h1.low, fun _ => newR rfl hr h.blo, h1.hA, h1.hU, h1.hD⟩
theorem MkInv.putA (h : MkInv W0 w base o wA wc ws m bc false bu bd x29 x32 x35 x38) : MkInv W0 (w.alloc (.cells (nilRows m) 25 (0, 0))) base (tagNew o w.heap.size (4, 0)) wA wc ws m bc true bu bd x29 (.slice (some ⟨w.heap.size, 0, none⟩) m m) x35 x38 := by
 have h1 := h.move (w1 := w.alloc (.cells (nilRows m) 25 (0, 0))) ((Below.refl _ _).alloc (Nat.le_refl _) _) (4, 0)
 exact ⟨h1.cW, h1.blo, h1.bel, h1.bw, h1.low, h1.hC, fun _ => ⟨_, rfl, heap_alloc_new w _, tagNew_new (Nat.le_refl _), h.blo⟩, h1.hU, h1.hD⟩
theorem MkInv.putU (h : MkInv W0 w base o wA wc ws m bc ba false bd x29 x32 x35 x38) (hm : m ≤ 2000000) : MkInv W0 (w.alloc (.cells (zeroInts m) 3 (0, 0))) base (tagNew o w.heap.size (2, 0)) wA wc ws m bc ba true bd x29 x32 (.slice (some ⟨w.heap.size, 0, none⟩) m m) x38 := by
 have h1 := h.move (w1 := w.alloc (.cells (zeroInts m) 3 (0, 0))) ((Below.refl _ _).alloc (Nat.le_refl _) _) (2, 0)
 exact ⟨h1.cW, h1.blo, h1.bel, h1.bw, h1.low, h1.hC, h1.hA, fun _ => ⟨_, rfl, zero_row w base m _ h.blo hm (tagNew_new (Nat.le_refl _))⟩, h1.hD⟩
theorem MkInv.putD (h : MkInv W0 w base o wA wc ws m bc ba bu false x29 x32 x35 x38) (hm : m ≤ 2000000) : MkInv W0 (w.alloc (.cells (zeroInts m) 3 (0, 0))) base (tagNew o w.heap.size (3, 0)) wA wc ws m bc ba bu true x29 x32 x35 (.slice (some ⟨w.heap.size, 0, none⟩) m m) := by
 have h1 := h.move (w1 := w.alloc (.cells (zeroInts m) 3 (0, 0))) ((Below.refl _ _).alloc (Nat.le_refl _) _) (3, 0)
 exact ⟨h1.cW, h1.blo, h1.bel, h1.bw, h1.low, h1.hC, h1.hA, h1.hU, fun _ => ⟨_, rfl, zero_row w base m _ h.blo hm (tagNew_new (Nat.le_refl _))⟩⟩
end
def mkF (y : Nat → Value) (p m : Nat) (wv ev x29 x32 x35 x38 : Value) : Act := { tmps := #[.pointer (some ⟨p, 0, none⟩), wv, y 2, y 3, y 4, y 5, y 6, y 7, ev, y 9, y 10, y 11, y 12, y 13, y 14, y 15, y 16, y 17, y 18, y 19, y 20, y 21, y 22, y 23, y 24, y 25, y 26, .pointer (some ⟨p, 0, none⟩), wv, x29, ev, .int .i64 (m : Int), x32, ev, .int .i64 (m : Int), x35, ev, .int .i64 (m : Int), x38, undef, undef, undef, undef, undef, undef, undef, undef, undef, undef, undef, undef, undef, undef, undef, undef, undef, undef, undef, undef, undef, undef, undef, undef, undef, undef, undef, undef, undef, undef, undef, undef, undef, undef, undef, undef, undef, undef, undef, undef, undef, undef, undef, undef, undef, undef, undef, undef, undef, undef, undef, undef, undef, undef, undef, undef, undef, undef, undef, undef, undef, undef], defers := [] }
def MkFin (Q : Exit → Act → World → Prop) (W0 : World) (y : Nat → Value) (base p m : Nat) (wA : Option Addr) (wc : Nat) (ws : List Int) (wv ev : Value) : Prop :=
 ∀ (w : World) (o : Tags) (v29 v32 v35 v38 : Value), MkInv W0 w base o wA wc ws m true true true true v29 v32 v35 v38 → Q .normal { tmps := #[.pointer (some ⟨p, 0, none⟩), wv, y 2, y 3, y 4, y 5, y 6, y 7, ev, .pointer (some ⟨w.heap.size, 0, none⟩), y 10, y 11, y 12, y 13, y 14, y 15, y 16, y 17, y 18, y 19, y 20, y 21, y 22, y 23, y 24, y 25, y 26, .pointer (some ⟨p, 0, none⟩), wv, v29, ev, .int .i64 (m : Int), v32, ev, .int .i64 (m : Int), v35, ev, .int .i64 (m : Int), v38, .agg #[.pointer (some ⟨p, 0, none⟩), v29, v32, v35, v38], .pointer (some ⟨w.heap.size, 0, none⟩), undef, undef, undef, undef, undef, undef, undef, undef, undef, undef, undef, undef, undef, undef, undef, undef, undef, undef, undef, undef, undef, undef, undef, undef, undef, undef, undef, undef, undef, undef, undef, undef, undef, undef, undef, undef, undef, undef, undef, undef, undef, undef, undef, undef, undef, undef, undef, undef, undef, undef, undef, undef, undef, undef, undef, undef, undef, undef, undef, undef], defers := [] } (w.alloc (.cells #[.pointer (some ⟨p, 0, none⟩), v29, v32, v35, v38] 117 (0, 0)))
abbrev MW (Q : Exit → Act → World → Prop) (y : Nat → Value) (p m : Nat) (wA : Option Addr) (wc : Nat) (ws : List Int) (eA : Option Addr) (ec : Nat) (f k : Nat) (x29 x32 x35 x38 : Value) (w : World) : Prop :=
 wpAnyLast Try.prog .any (regOps (codeL (codeR (codeR (codeR (codeR (codeR (Try.f46.body.getD .skip)))))))) Q (fun _ => True) [] f (bits 15 k) (mkF y p m (.slice wA ws.length wc) (.slice eA m ec) x29 x32 x35 x38) w
section
variable {Q : Exit → Act → World → Prop} {W0 : World} {base p m : Nat} {wA : Option Addr} {wc : Nat} {ws : List Int} {eA : Option Addr} {ec : Nat} {y : Nat → Value}
variable (hm : m ≤ 20000) (hwl : ws.length ≤ 1000000) (hwc : ws.length ≤ wc) (hQ : ∀ (c : List PanicEntry) (a : Act) (w : World) (d : Option Tmp) (v : Value), Q (.panic c) (a.put d v) w → Q (.panic c) a w)
include hm hwl hwc hQ in
set_option maxHeartbeats 1600000 in
set_option maxRecDepth 100000 in
theorem mst_1111 (hfin : MkFin Q W0 y base p m wA wc ws (.slice wA ws.length wc) (.slice eA m ec)) {w : World} {o : Tags} {x29 x32 x35 x38 : Value} (h : MkInv W0 w base o wA wc ws m true true true true x29 x32 x35 x38) : MW Q y p m wA wc ws eA ec 3 4095 x29 x32 x35 x38 w := by
 simp only [MW, Try.f46, Option.getD_some, codeR, codeL, regOps, mkF]
 have _ := hm; have _ := hwl; have _ := hwc; have _ := hQ
 obtain ⟨Ba, rfl, _⟩ := h.hA rfl
 obtain ⟨Bu, rfl, _⟩ := h.hU rfl
 obtain ⟨Bd, rfl, _⟩ := h.hD rfl
 obtain ⟨A9, c9, e9⟩ := Kd.R_slice (h.hC rfl); subst e9
 refine p_ 12 39 ?_ (hQ := fun c a w h => hQ c a w _ _ h)
 refine o_ 13 40 (fun K hK => ?_)
 refine value_ (w1 := ?_) (v := ?_) (by rfl) rfl ?_ ?_; rotate_left 2; (·go_simp; constructor; (·rfl); (·rfl))
 refine hK.out _ _ trivial (fun _ => ?_)
 refine n_ 40 ?_
 refine p_ 14 9 ?_ (hQ := fun c a w h => hQ c a w _ _ h)
 refine d_ ?_
 unfold MkFin at hfin
 exact hfin _ _ _ _ _ _ h
include hm hwl hwc hQ in
set_option maxHeartbeats 1600000 in
set_option maxRecDepth 100000 in
theorem mst_0111 (hfin : MkFin Q W0 y base p m wA wc ws (.slice wA ws.length wc) (.slice eA m ec)) {w : World} {o : Tags} {x29 x32 x35 x38 : Value} (h : MkInv W0 w base o wA wc ws m false true true true x29 x32 x35 x38) : MW Q y p m wA wc ws eA ec 4 4091 x29 x32 x35 x38 w := by
 simp only [MW, Try.f46, Option.getD_some, codeR, codeL, regOps, mkF]
 have _ := hm; have _ := hwl; have _ := hwc; have _ := hQ
 refine ready_ (rs := [2]) (by kernel_rfl) (by decide) ?_
 refine m_ 2 29 (fun K hK => ?_) ?_; rotate_left
 exact AllReadyL.nil
 ·refine goes_ Try.func78 (by kernel_rfl) rfl #[.slice wA ws.length wc] (by rfl) rfl rfl byL ?_
  refine (custom_copied.calls wA wc ws ws _ h.cW hwc (copied_f hwl)).mono ?_
  rintro e w1 ⟨v, rfl, hr, hb⟩
  refine ⟨_, rfl, ?_⟩
  have h' := h.putC hb hr
  refine hK.out _ _ trivial (fun _ => ?_)
  refine n_ 29 ?_
  exact mst_1111 hm hwl hwc hQ hfin h'
include hm hwl hwc hQ in
set_option maxHeartbeats 1600000 in
set_option maxRecDepth 100000 in
theorem mst_1011 (hfin : MkFin Q W0 y base p m wA wc ws (.slice wA ws.length wc) (.slice eA m ec)) {w : World} {o : Tags} {x29 x32 x35 x38 : Value} (h : MkInv W0 w base o wA wc ws m true false true true x29 x32 x35 x38) : MW Q y p m wA wc ws eA ec 4 4063 x29 x32 x35 x38 w := by
 simp only [MW, Try.f46, Option.getD_some, codeR, codeL, regOps, mkF]
 have _ := hm; have _ := hwl; have _ := hwc; have _ := hQ
 refine ready_ (rs := [5]) (by kernel_rfl) (by decide) ?_
 refine m_ 5 32 (fun K hK => ?_) ?_; rotate_left
 exact AllReadyL.nil
 ·refine value_ (w1 := ?_) (v := ?_) (by rfl) rfl ?_ ?_; rotate_left 2; (·have hmk := run_nilRows m hm; go_simp; constructor; (·rfl); (·rfl))
  have h' := h.putA
  refine hK.out _ _ trivial (fun _ => ?_)
  refine n_ 32 ?_
  exact mst_1111 hm hwl hwc hQ hfin h'
include hm hwl hwc hQ in
set_option maxHeartbeats 1600000 in
set_option maxRecDepth 100000 in
theorem mst_1101 (hfin : MkFin Q W0 y base p m wA wc ws (.slice wA ws.length wc) (.slice eA m ec)) {w : World} {o : Tags} {x29 x32 x35 x38 : Value} (h : MkInv W0 w base o wA wc ws m true true false true x29 x32 x35 x38) : MW Q y p m wA wc ws eA ec 4 3839 x29 x32 x35 x38 w := by
 simp only [MW, Try.f46, Option.getD_some, codeR, codeL, regOps, mkF]
 have _ := hm; have _ := hwl; have _ := hwc; have _ := hQ
 refine ready_ (rs := [8]) (by kernel_rfl) (by decide) ?_
 refine m_ 8 35 (fun K hK => ?_) ?_; rotate_left
 exact AllReadyL.nil
 ·refine value_ (w1 := ?_) (v := ?_) (by rfl) rfl ?_ ?_; rotate_left 2; (·have hmk := run_zeroInts m (by omega); go_simp; constructor; (·rfl); (·rfl))
  have h' := h.putU (by omega)
  refine hK.out _ _ trivial (fun _ => ?_)
  refine n_ 35 ?_
  exact mst_1111 hm hwl hwc hQ hfin h'
include hm hwl hwc hQ in
set_option maxHeartbeats 1600000 in
set_option maxRecDepth 100000 in
theorem mst_1110 (hfin : MkFin Q W0 y base p m wA wc ws (.slice wA ws.length wc) (.slice eA m ec)) {w : World} {o : Tags} {x29 x32 x35 x38 : Value} (h : MkInv W0 w base o wA wc ws m true true true false x29 x32 x35 x38) : MW Q y p m wA wc ws eA ec 4 2047 x29 x32 x35 x38 w := by
 simp only [MW, Try.f46, Option.getD_some, codeR, codeL, regOps, mkF]
 have _ := hm; have _ := hwl; have _ := hwc; have _ := hQ
 refine ready_ (rs := [11]) (by kernel_rfl) (by decide) ?_
 refine m_ 11 38 (fun K hK => ?_) ?_; rotate_left
 exact AllReadyL.nil
 ·refine value_ (w1 := ?_) (v := ?_) (by rfl) rfl ?_ ?_; rotate_left 2; (·have hmk := run_zeroInts m (by omega); go_simp; constructor; (·rfl); (·rfl))
  have h' := h.putD (by omega)
  refine hK.out _ _ trivial (fun _ => ?_)
  refine n_ 38 ?_
  exact mst_1111 hm hwl hwc hQ hfin h'
include hm hwl hwc hQ in
set_option maxHeartbeats 1600000 in
set_option maxRecDepth 100000 in
theorem mst_0011 (hfin : MkFin Q W0 y base p m wA wc ws (.slice wA ws.length wc) (.slice eA m ec)) {w : World} {o : Tags} {x29 x32 x35 x38 : Value} (h : MkInv W0 w base o wA wc ws m false false true true x29 x32 x35 x38) : MW Q y p m wA wc ws eA ec 5 4059 x29 x32 x35 x38 w := by
 simp only [MW, Try.f46, Option.getD_some, codeR, codeL, regOps, mkF]
 have _ := hm; have _ := hwl; have _ := hwc; have _ := hQ
 refine ready_ (rs := [2, 5]) (by kernel_rfl) (by decide) ?_
 refine m_ 2 29 (fun K hK => ?_) ?_; rotate_left
 refine m_ 5 32 (fun K hK => ?_) ?_; rotate_left
 exact AllReadyL.nil
 ·refine goes_ Try.func78 (by kernel_rfl) rfl #[.slice wA ws.length wc] (by rfl) rfl rfl byL ?_
  refine (custom_copied.calls wA wc ws ws _ h.cW hwc (copied_f hwl)).mono ?_
  rintro e w1 ⟨v, rfl, hr, hb⟩
  refine ⟨_, rfl, ?_⟩
  have h' := h.putC hb hr
  refine hK.out _ _ trivial (fun _ => ?_)
  refine n_ 29 ?_
  exact mst_1011 hm hwl hwc hQ hfin h'
 ·refine value_ (w1 := ?_) (v := ?_) (by rfl) rfl ?_ ?_; rotate_left 2; (·have hmk := run_nilRows m hm; go_simp; constructor; (·rfl); (·rfl))
  have h' := h.putA
  refine hK.out _ _ trivial (fun _ => ?_)
  refine n_ 32 ?_
  exact mst_0111 hm hwl hwc hQ hfin h'
include hm hwl hwc hQ in
set_option maxHeartbeats 1600000 in
set_option maxRecDepth 100000 in
theorem mst_0101 (hfin : MkFin Q W0 y base p m wA wc ws (.slice wA ws.length wc) (.slice eA m ec)) {w : World} {o : Tags} {x29 x32 x35 x38 : Value} (h : MkInv W0 w base o wA wc ws m false true false true x29 x32 x35 x38) : MW Q y p m wA wc ws eA ec 5 3835 x29 x32 x35 x38 w := by
 simp only [MW, Try.f46, Option.getD_some, codeR, codeL, regOps, mkF]
 have _ := hm; have _ := hwl; have _ := hwc; have _ := hQ
 refine ready_ (rs := [2, 8]) (by kernel_rfl) (by decide) ?_
 refine m_ 2 29 (fun K hK => ?_) ?_; rotate_left
 refine m_ 8 35 (fun K hK => ?_) ?_; rotate_left
 exact AllReadyL.nil
 ·refine goes_ Try.func78 (by kernel_rfl) rfl #[.slice wA ws.length wc] (by rfl) rfl rfl byL ?_
  refine (custom_copied.calls wA wc ws ws _ h.cW hwc (copied_f hwl)).mono ?_
  rintro e w1 ⟨v, rfl, hr, hb⟩
  refine ⟨_, rfl, ?_⟩
  have h' := h.putC hb hr
  refine hK.out _ _ trivial (fun _ => ?_)
  refine n_ 29 ?_
  exact mst_1101 hm hwl hwc hQ hfin h'
 ·refine value_ (w1 := ?_) (v := ?_) (by rfl) rfl ?_ ?_; rotate_left 2; (·have hmk := run_zeroInts m (by omega); go_simp; constructor; (·rfl); (·rfl))
  have h' := h.putU (by omega)
  refine hK.out _ _ trivial (fun _ => ?_)
  refine n_ 35 ?_
  exact mst_0111 hm hwl hwc hQ hfin h'
include hm hwl hwc hQ in
set_option maxHeartbeats 1600000 in
set_option maxRecDepth 100000 in
theorem mst_0110 (hfin : MkFin Q W0 y base p m wA wc ws (.slice wA ws.length wc) (.slice eA m ec)) {w : World} {o : Tags} {x29 x32 x35 x38 : Value} (h : MkInv W0 w base o wA wc ws m false true true false x29 x32 x35 x38) : MW Q y p m wA wc ws eA ec 5 2043 x29 x32 x35 x38 w := by
 simp only [MW, Try.f46, Option.getD_some, codeR, codeL, regOps, mkF]
 have _ := hm; have _ := hwl; have _ := hwc; have _ := hQ
 refine ready_ (rs := [2, 11]) (by kernel_rfl) (by decide) ?_
 refine m_ 2 29 (fun K hK => ?_) ?_; rotate_left
 refine m_ 11 38 (fun K hK => ?_) ?_; rotate_left
 exact AllReadyL.nil
 ·refine goes_ Try.func78 (by kernel_rfl) rfl #[.slice wA ws.length wc] (by rfl) rfl rfl byL ?_
  refine (custom_copied.calls wA wc ws ws _ h.cW hwc (copied_f hwl)).mono ?_
  rintro e w1 ⟨v, rfl, hr, hb⟩
  refine ⟨_, rfl, ?_⟩
  have h' := h.putC hb hr
  refine hK.out _ _ trivial (fun _ => ?_)
  refine n_ 29 ?_
  exact mst_1110 hm hwl hwc hQ hfin h'
 ·refine value_ (w1 := ?_) (v := ?_) (by rfl) rfl ?_ ?_; rotate_left 2; (·have hmk := run_zeroInts m (by omega); go_simp; constructor; (·rfl); (·rfl))
  have h' := h.putD (by omega)
  refine hK.out _ _ trivial (fun _ => ?_)
  refine n_ 38 ?_
  exact mst_0111 hm hwl hwc hQ hfin h'
include hm hwl hwc hQ in
set_option maxHeartbeats 1600000 in
set_option maxRecDepth 100000 in
theorem mst_1001 (hfin : MkFin Q W0 y base p m wA wc ws (.slice wA ws.length wc) (.slice eA m ec)) {w : World} {o : Tags} {x29 x32 x35 x38 : Value} (h : MkInv W0 w base o wA wc ws m true false false true x29 x32 x35 x38) : MW Q y p m wA wc ws eA ec 5 3807 x29 x32 x35 x38 w := by
 simp only [MW, Try.f46, Option.getD_some, codeR, codeL, regOps, mkF]
 have _ := hm; have _ := hwl; have _ := hwc; have _ := hQ
 refine ready_ (rs := [5, 8]) (by kernel_rfl) (by decide) ?_
 refine m_ 5 32 (fun K hK => ?_) ?_; rotate_left
 refine m_ 8 35 (fun K hK => ?_) ?_; rotate_left
 exact AllReadyL.nil
 ·refine value_ (w1 := ?_) (v := ?_) (by rfl) rfl ?_ ?_; rotate_left 2; (·have hmk := run_nilRows m hm; go_simp; constructor; (·rfl); (·rfl))
  have h' := h.putA
  refine hK.out _ _ trivial (fun _ => ?_)
  refine n_ 32 ?_
  exact mst_1101 hm hwl hwc hQ hfin h'
 ·refine value_ (w1 := ?_) (v := ?_) (by rfl) rfl ?_ ?_; rotate_left 2; (·have hmk := run_zeroInts m (by omega); go_simp; constructor; (·rfl); (·rfl))
  have h' := h.putU (by omega)
  refine hK.out _ _ trivial (fun _ => ?_)
  refine n_ 35 ?_
  exact mst_1011 hm hwl hwc hQ hfin h'
include hm hwl hwc hQ in
set_option maxHeartbeats 1600000 in
set_option maxRecDepth 100000 in
theorem mst_1010 (hfin : MkFin Q W0 y base p m wA wc ws (.slice wA ws.length wc) (.slice eA m ec)) {w : World} {o : Tags} {x29 x32 x35 x38 : Value} (h : MkInv W0 w base o wA wc ws m true false true false x29 x32 x35 x38) : MW Q y p m wA wc ws eA ec 5 2015 x29 x32 x35 x38 w := by
 simp only [MW, Try.f46, Option.getD_some, codeR, codeL, regOps, mkF]
 have _ := hm; have _ := hwl; have _ := hwc; have _ := hQ
 refine ready_ (rs := [5, 11]) (by kernel_rfl) (by decide) ?_
 refine m_ 5 32 (fun K hK => ?_) ?_; rotate_left
 refine m_ 11 38 (fun K hK => ?_) ?_; rotate_left
 exact AllReadyL.nil
 ·refine value_ (w1 := ?_) (v := ?_) (by rfl) rfl ?_ ?_; rotate_left 2; (·have hmk := run_nilRows m hm; go_simp; constructor; (·rfl); (·rfl))
  have h' := h.putA
  refine hK.out _ _ trivial (fun _ => ?_)
  refine n_ 32 ?_
  exact mst_1110 hm hwl hwc hQ hfin h'
 ·refine value_ (w1 := ?_) (v := ?_) (by rfl) rfl ?_ ?_; rotate_left 2; (·have hmk := run_zeroInts m (by omega); go_simp; constructor; (·rfl); (·rfl))
  have h' := h.putD (by omega)
  refine hK.out _ _ trivial (fun _ => ?_)
  refine n_ 38 ?_
  exact mst_1011 hm hwl hwc hQ hfin h'
include hm hwl hwc hQ in
set_option maxHeartbeats 1600000 in
set_option maxRecDepth 100000 in
theorem mst_1100 (hfin : MkFin Q W0 y base p m wA wc ws (.slice wA ws.length wc) (.slice eA m ec)) {w : World} {o : Tags} {x29 x32 x35 x38 : Value} (h : MkInv W0 w base o wA wc ws m true true false false x29 x32 x35 x38) : MW Q y p m wA wc ws eA ec 5 1791 x29 x32 x35 x38 w := by
 simp only [MW, Try.f46, Option.getD_some, codeR, codeL, regOps, mkF]
 have _ := hm; have _ := hwl; have _ := hwc; have _ := hQ
 refine ready_ (rs := [8, 11]) (by kernel_rfl) (by decide) ?_
 refine m_ 8 35 (fun K hK => ?_) ?_; rotate_left
 refine m_ 11 38 (fun K hK => ?_) ?_; rotate_left
 exact AllReadyL.nil
 ·refine value_ (w1 := ?_) (v := ?_) (by rfl) rfl ?_ ?_; rotate_left 2; (·have hmk := run_zeroInts m (by omega); go_simp; constructor; (·rfl); (·rfl))
  have h' := h.putU (by omega)
  refine hK.out _ _ trivial (fun _ => ?_)
  refine n_ 35 ?_
  exact mst_1110 hm hwl hwc hQ hfin h'
 ·refine value_ (w1 := ?_) (v := ?_) (by rfl) rfl ?_ ?_; rotate_left 2; (·have hmk := run_zeroInts m (by omega); go_simp; constructor; (·rfl); (·rfl))
  have h' := h.putD (by omega)
  refine hK.out _ _ trivial (fun _ => ?_)
  refine n_ 38 ?_
  exact mst_1101 hm hwl hwc hQ hfin h'
include hm hwl hwc hQ in
set_option maxHeartbeats 1600000 in
set_option maxRecDepth 100000 in
theorem mst_0001 (hfin : MkFin Q W0 y base p m wA wc ws (.slice wA ws.length wc) (.slice eA m ec)) {w : World} {o : Tags} {x29 x32 x35 x38 : Value} (h : MkInv W0 w base o wA wc ws m false false false true x29 x32 x35 x38) : MW Q y p m wA wc ws eA ec 6 3803 x29 x32 x35 x38 w := by
 simp only [MW, Try.f46, Option.getD_some, codeR, codeL, regOps, mkF]
 have _ := hm; have _ := hwl; have _ := hwc; have _ := hQ
 refine ready_ (rs := [2, 5, 8]) (by kernel_rfl) (by decide) ?_
 refine m_ 2 29 (fun K hK => ?_) ?_; rotate_left
 refine m_ 5 32 (fun K hK => ?_) ?_; rotate_left
 refine m_ 8 35 (fun K hK => ?_) ?_; rotate_left
 exact AllReadyL.nil
 ·refine goes_ Try.func78 (by kernel_rfl) rfl #[.slice wA ws.length wc] (by rfl) rfl rfl byL ?_
  refine (custom_copied.calls wA wc ws ws _ h.cW hwc (copied_f hwl)).mono ?_
  rintro e w1 ⟨v, rfl, hr, hb⟩
  refine ⟨_, rfl, ?_⟩
  have h' := h.putC hb hr
  refine hK.out _ _ trivial (fun _ => ?_)
  refine n_ 29 ?_
  exact mst_1001 hm hwl hwc hQ hfin h'
 ·refine value_ (w1 := ?_) (v := ?_) (by rfl) rfl ?_ ?_; rotate_left 2; (·have hmk := run_nilRows m hm; go_simp; constructor; (·rfl); (·rfl))
  have h' := h.putA
  refine hK.out _ _ trivial (fun _ => ?_)
  refine n_ 32 ?_
  exact mst_0101 hm hwl hwc hQ hfin h'
 ·refine value_ (w1 := ?_) (v := ?_) (by rfl) rfl ?_ ?_; rotate_left 2; (·have hmk := run_zeroInts m (by omega); go_simp; constructor; (·rfl); (·rfl))
  have h' := h.putU (by omega)
  refine hK.out _ _ trivial (fun _ => ?_)
  refine n_ 35 ?_
  exact mst_0011 hm hwl hwc hQ hfin h'
include hm hwl hwc hQ in
set_option maxHeartbeats 1600000 in
set_option maxRecDepth 100000 in
theorem mst_0010 (hfin : MkFin Q W0 y base p m wA wc ws (.slice wA ws.length wc) (.slice eA m ec)) {w : World} {o : Tags} {x29 x32 x35 x38 : Value} (h : MkInv W0 w base o wA wc ws m false false true false x29 x32 x35 x38) : MW Q y p m wA wc ws eA ec 6 2011 x29 x32 x35 x38 w := by
 simp only [MW, Try.f46, Option.getD_some, codeR, codeL, regOps, mkF]
 have _ := hm; have _ := hwl; have _ := hwc; have _ := hQ
 refine ready_ (rs := [2, 5, 11]) (by kernel_rfl) (by decide) ?_
 refine m_ 2 29 (fun K hK => ?_) ?_; rotate_left
 refine m_ 5 32 (fun K hK => ?_) ?_; rotate_left
 refine m_ 11 38 (fun K hK => ?_) ?_; rotate_left
 exact AllReadyL.nil
 ·refine goes_ Try.func78 (by kernel_rfl) rfl #[.slice wA ws.length wc] (by rfl) rfl rfl byL ?_
  refine (custom_copied.calls wA wc ws ws _ h.cW hwc (copied_f hwl)).mono ?_
  rintro e w1 ⟨v, rfl, hr, hb⟩
  refine ⟨_, rfl, ?_⟩
  have h' := h.putC hb hr
  refine hK.out _ _ trivial (fun _ => ?_)
  refine n_ 29 ?_
  exact mst_1010 hm hwl hwc hQ hfin h'
 ·refine value_ (w1 := ?_) (v := ?_) (by rfl) rfl ?_ ?_; rotate_left 2; (·have hmk := run_nilRows m hm; go_simp; constructor; (·rfl); (·rfl))
  have h' := h.putA
  refine hK.out _ _ trivial (fun _ => ?_)
  refine n_ 32 ?_
  exact mst_0110 hm hwl hwc hQ hfin h'
 ·refine value_ (w1 := ?_) (v := ?_) (by rfl) rfl ?_ ?_; rotate_left 2; (·have hmk := run_zeroInts m (by omega); go_simp; constructor; (·rfl); (·rfl))
  have h' := h.putD (by omega)
  refine hK.out _ _ trivial (fun _ => ?_)
  refine n_ 38 ?_
  exact mst_0011 hm hwl hwc hQ hfin h'
include hm hwl hwc hQ in
set_option maxHeartbeats 1600000 in
set_option maxRecDepth 100000 in
theorem mst_0100 (hfin : MkFin Q W0 y base p m wA wc ws (.slice wA ws.length wc) (.slice eA m ec)) {w : World} {o : Tags} {x29 x32 x35 x38 : Value} (h : MkInv W0 w base o wA wc ws m false true false false x29 x32 x35 x38) : MW Q y p m wA wc ws eA ec 6 1787 x29 x32 x35 x38 w := by
 simp only [MW, Try.f46, Option.getD_some, codeR, codeL, regOps, mkF]
 have _ := hm; have _ := hwl; have _ := hwc; have _ := hQ
 refine ready_ (rs := [2, 8, 11]) (by kernel_rfl) (by decide) ?_
 refine m_ 2 29 (fun K hK => ?_) ?_; rotate_left
 refine m_ 8 35 (fun K hK => ?_) ?_; rotate_left
 refine m_ 11 38 (fun K hK => ?_) ?_; rotate_left
 exact AllReadyL.nil
 ·refine goes_ Try.func78 (by kernel_rfl) rfl #[.slice wA ws.length wc] (by rfl) rfl rfl byL ?_
  refine (custom_copied.calls wA wc ws ws _ h.cW hwc (copied_f hwl)).mono ?_
  rintro e w1 ⟨v, rfl, hr, hb⟩
  refine ⟨_, rfl, ?_⟩
  have h' := h.putC hb hr
  refine hK.out _ _ trivial (fun _ => ?_)
  refine n_ 29 ?_
  exact mst_1100 hm hwl hwc hQ hfin h'
 ·refine value_ (w1 := ?_) (v := ?_) (by rfl) rfl ?_ ?_; rotate_left 2; (·have hmk := run_zeroInts m (by omega); go_simp; constructor; (·rfl); (·rfl))
  have h' := h.putU (by omega)
  refine hK.out _ _ trivial (fun _ => ?_)
  refine n_ 35 ?_
  exact mst_0110 hm hwl hwc hQ hfin h'
 ·refine value_ (w1 := ?_) (v := ?_) (by rfl) rfl ?_ ?_; rotate_left 2; (·have hmk := run_zeroInts m (by omega); go_simp; constructor; (·rfl); (·rfl))
  have h' := h.putD (by omega)
  refine hK.out _ _ trivial (fun _ => ?_)
  refine n_ 38 ?_
  exact mst_0101 hm hwl hwc hQ hfin h'
include hm hwl hwc hQ in
set_option maxHeartbeats 1600000 in
set_option maxRecDepth 100000 in
theorem mst_1000 (hfin : MkFin Q W0 y base p m wA wc ws (.slice wA ws.length wc) (.slice eA m ec)) {w : World} {o : Tags} {x29 x32 x35 x38 : Value} (h : MkInv W0 w base o wA wc ws m true false false false x29 x32 x35 x38) : MW Q y p m wA wc ws eA ec 6 1759 x29 x32 x35 x38 w := by
 simp only [MW, Try.f46, Option.getD_some, codeR, codeL, regOps, mkF]
 have _ := hm; have _ := hwl; have _ := hwc; have _ := hQ
 refine ready_ (rs := [5, 8, 11]) (by kernel_rfl) (by decide) ?_
 refine m_ 5 32 (fun K hK => ?_) ?_; rotate_left
 refine m_ 8 35 (fun K hK => ?_) ?_; rotate_left
 refine m_ 11 38 (fun K hK => ?_) ?_; rotate_left
 exact AllReadyL.nil
 ·refine value_ (w1 := ?_) (v := ?_) (by rfl) rfl ?_ ?_; rotate_left 2; (·have hmk := run_nilRows m hm; go_simp; constructor; (·rfl); (·rfl))
  have h' := h.putA
  refine hK.out _ _ trivial (fun _ => ?_)
  refine n_ 32 ?_
  exact mst_1100 hm hwl hwc hQ hfin h'
 ·refine value_ (w1 := ?_) (v := ?_) (by rfl) rfl ?_ ?_; rotate_left 2; (·have hmk := run_zeroInts m (by omega); go_simp; constructor; (·rfl); (·rfl))
  have h' := h.putU (by omega)
  refine hK.out _ _ trivial (fun _ => ?_)
  refine n_ 35 ?_
  exact mst_1010 hm hwl hwc hQ hfin h'
 ·refine value_ (w1 := ?_) (v := ?_) (by rfl) rfl ?_ ?_; rotate_left 2; (·have hmk := run_zeroInts m (by omega); go_simp; constructor; (·rfl); (·rfl))
  have h' := h.putD (by omega)
  refine hK.out _ _ trivial (fun _ => ?_)
  refine n_ 38 ?_
  exact mst_1001 hm hwl hwc hQ hfin h'
include hm hwl hwc hQ in
set_option maxHeartbeats 1600000 in
set_option maxRecDepth 100000 in
theorem mst_0000 (hfin : MkFin Q W0 y base p m wA wc ws (.slice wA ws.length wc) (.slice eA m ec)) {w : World} {o : Tags} {x29 x32 x35 x38 : Value} (h : MkInv W0 w base o wA wc ws m false false false false x29 x32 x35 x38) : MW Q y p m wA wc ws eA ec 7 1755 x29 x32 x35 x38 w := by
 simp only [MW, Try.f46, Option.getD_some, codeR, codeL, regOps, mkF]
 have _ := hm; have _ := hwl; have _ := hwc; have _ := hQ
 refine ready_ (rs := [2, 5, 8, 11]) (by kernel_rfl) (by decide) ?_
 refine m_ 2 29 (fun K hK => ?_) ?_; rotate_left
 refine m_ 5 32 (fun K hK => ?_) ?_; rotate_left
 refine m_ 8 35 (fun K hK => ?_) ?_; rotate_left
 refine m_ 11 38 (fun K hK => ?_) ?_; rotate_left
 exact AllReadyL.nil
 ·refine goes_ Try.func78 (by kernel_rfl) rfl #[.slice wA ws.length wc] (by rfl) rfl rfl byL ?_
  refine (custom_copied.calls wA wc ws ws _ h.cW hwc (copied_f hwl)).mono ?_
  rintro e w1 ⟨v, rfl, hr, hb⟩
  refine ⟨_, rfl, ?_⟩
  have h' := h.putC hb hr
  refine hK.out _ _ trivial (fun _ => ?_)
  refine n_ 29 ?_
  exact mst_1000 hm hwl hwc hQ hfin h'
 ·refine value_ (w1 := ?_) (v := ?_) (by rfl) rfl ?_ ?_; rotate_left 2; (·have hmk := run_nilRows m hm; go_simp; constructor; (·rfl); (·rfl))
  have h' := h.putA
  refine hK.out _ _ trivial (fun _ => ?_)
  refine n_ 32 ?_
  exact mst_0100 hm hwl hwc hQ hfin h'
 ·refine value_ (w1 := ?_) (v := ?_) (by rfl) rfl ?_ ?_; rotate_left 2; (·have hmk := run_zeroInts m (by omega); go_simp; constructor; (·rfl); (·rfl))
  have h' := h.putU (by omega)
  refine hK.out _ _ trivial (fun _ => ?_)
  refine n_ 35 ?_
  exact mst_0010 hm hwl hwc hQ hfin h'
 ·refine value_ (w1 := ?_) (v := ?_) (by rfl) rfl ?_ ?_; rotate_left 2; (·have hmk := run_zeroInts m (by omega); go_simp; constructor; (·rfl); (·rfl))
  have h' := h.putD (by omega)
  refine hK.out _ _ trivial (fun _ => ?_)
  refine n_ 38 ?_
  exact mst_0001 hm hwl hwc hQ hfin h'
include hm hwl hwc hQ in
set_option maxHeartbeats 1600000 in
set_option maxRecDepth 100000 in
theorem mk_region {y2 y3 y4 y5 y6 y7 y9 y10 y11 y12 y13 y14 y15 y16 y17 y18 y19 y20 y21 y22 y23 y24 y25 y26 : Value} (hfin : MkFin Q W0 (fun i => match i with | 2 => y2 | 3 => y3 | 4 => y4 | 5 => y5 | 6 => y6 | 7 => y7 | 9 => y9 | 10 => y10 | 11 => y11 | 12 => y12 | 13 => y13 | 14 => y14 | 15 => y15 | 16 => y16 | 17 => y17 | 18 => y18 | 19 => y19 | 20 => y20 | 21 => y21 | 22 => y22 | 23 => y23 | 24 => y24 | 25 => y25 | 26 => y26 | _ => undef) base p m wA wc ws (.slice wA ws.length wc) (.slice eA m ec)) {w : World} {o : Tags} (h : MkInv W0 w.drew base o wA wc ws m false false false false undef undef undef undef) : (Code.region 8 (regOps (codeL (codeR (codeR (codeR (codeR (codeR (Try.f46.body.getD .skip)))))))) true).wp Try.prog Q { tmps := #[.pointer (some ⟨p, 0, none⟩), .slice wA ws.length wc, y2, y3, y4, y5, y6, y7, .slice eA m ec, y9, y10, y11, y12, y13, y14, y15, y16, y17, y18, y19, y20, y21, y22, y23, y24, y25, y26, undef, undef, undef, undef, undef, undef, undef, undef, undef, undef, undef, undef, undef, undef, undef, undef, undef, undef, undef, undef, undef, undef, undef, undef, undef, undef, undef, undef, undef, undef, undef, undef, undef, undef, undef, undef, undef, undef, undef, undef, undef, undef, undef, undef, undef, undef, undef, undef, undef, undef, undef, undef, undef, undef, undef, undef, undef, undef, undef, undef, undef, undef, undef, undef, undef, undef, undef, undef, undef, undef, undef, undef, undef, undef], defers := [] } w := by
 simp only [MW, Try.f46, Option.getD_some, codeR, codeL, regOps]
 refine s_ (fun _ => True) [] trivial (fun hHeld => ?_)
 refine p_ 0 27 ?_ (hQ := fun c a w h => hQ c a w _ _ h)
 refine p_ 1 28 ?_ (hQ := fun c a w h => hQ c a w _ _ h)
 refine p_ 3 30 ?_ (hQ := fun c a w h => hQ c a w _ _ h)
 refine p_ 4 31 ?_ (hQ := fun c a w h => hQ c a w _ _ h)
 refine p_ 6 33 ?_ (hQ := fun c a w h => hQ c a w _ _ h)
 refine p_ 7 34 ?_ (hQ := fun c a w h => hQ c a w _ _ h)
 refine p_ 9 36 ?_ (hQ := fun c a w h => hQ c a w _ _ h)
 refine p_ 10 37 ?_ (hQ := fun c a w h => hQ c a w _ _ h)
 exact mst_0000 (y := fun i => match i with | 2 => y2 | 3 => y3 | 4 => y4 | 5 => y5 | 6 => y6 | 7 => y7 | 9 => y9 | 10 => y10 | 11 => y11 | 12 => y12 | 13 => y13 | 14 => y14 | 15 => y15 | 16 => y16 | 17 => y17 | 18 => y18 | 19 => y19 | 20 => y20 | 21 => y21 | 22 => y22 | 23 => y23 | 24 => y24 | 25 => y25 | 26 => y26 | _ => undef) hm hwl hwc hQ hfin h
end
def oddW (n : Int) : Bool := decide (n < -1 ∨ n > 1073741824)
def dchk (N : Int) (arcs : List S58) (w : List Int) : Int := if chk N arcs ≠ 0 then chk N arcs else if w.length ≠ arcs.length then 17 else if (w.findIdx? oddW).isSome = true then 17 else 0
def idxOf (l : List Int) (i : Nat) : Int := (((l.drop i).findIdx? oddW).map (fun j : Nat => ((i + j : Nat) : Int))).getD (-1)
theorem idxOf_succ {l : List Int} {i : Nat} (hi : i < l.length) : idxOf l i = if oddW (l.getD i 0) = true then (i : Int) else idxOf l (i + 1) := by
 unfold idxOf
 rw [List.drop_eq_getElem_cons hi, List.findIdx?_cons]
 have h1 : l.getD i 0 = l[i] := by rw [List.getD_eq_getElem?_getD, List.getElem?_eq_getElem hi]; rfl
 rw [h1]
 cases h : oddW l[i] with
 | true => simp
 | false =>
  simp only [Bool.false_eq_true, if_false, Option.map_map]
  congr 2
  funext j
  show ((i + (j + 1) : Nat) : Int) = ((i + 1 + j : Nat) : Int)
  congr 1
  omega
theorem idxOf_end {l : List Int} {i : Nat} (hi : l.length ≤ i) : idxOf l i = -1 := by
 unfold idxOf
 rw [List.drop_of_length_le hi]
 rfl
theorem idxOf_pos {l : List Int} : 0 ≤ idxOf l 0 ↔ (l.findIdx? oddW).isSome = true := by
 unfold idxOf
 rw [List.drop_zero]
 cases l.findIdx? oddW with
 | none => simp
 | some j => simp
set_option maxHeartbeats 1600000 in
set_option maxRecDepth 100000 in
theorem IndexFunc_odd {w : World} {A : Option Addr} {c : Nat} {l : List Int} (hC : Kd.C (Kd.int .i64) w A l.length l) (hl : l.length ≤ 1000000000) :
  Calls Try.prog 100 #[.slice A l.length c, .func (.func 94) #[] #[]] w fun e w' => e = .returned (.int .i64 (idxOf l 0)) ∧ Below w.heap.size w w' := by
 have HC := Aside0.mk hC
 clear hC
 go_enter Try.func100, Try.ntmps100
 go_wp2_with (fail)
 go_loopw [8] (fun i wr => ∃ j : Nat, i = .int .i64 (j : Int) ∧ j ≤ l.length ∧ Aside0 (Below w.heap.size w wr) ∧ Aside0 (idxOf l 0 = idxOf l j)) (fun i _ => l.length - (intOf i).toNat)
 case atStart => exact ⟨0, rfl, Nat.zero_le _, ⟨Below.refl _ _⟩, ⟨rfl⟩⟩
 case round =>
  obtain ⟨j, rfl, hj, HB, HI⟩ := hrel
  by_cases hjl : j < l.length
  ·rcases cells_of_C (Kd.C_below HC.out HB.out) with ⟨h0, _⟩ | ⟨_, b, off, hA, hce⟩
   ·omega
   first | subst hA | (injection hA with e1; injection e1 with e1 e2 _; subst e1 e2)
   have hcx := hce j hjl
   have HS := Aside0.mk (idxOf_succ hjl)
   clear hce
   generalize l.getD j 0 = x at hcx HS
   by_cases h1 : x < -1
   ·have HO : Aside0 (idxOf l 0 = (j : Int)) := ⟨by rw [HI.out, HS.out, if_pos (by unfold oddW; exact decide_eq_true (.inl h1))]⟩
    go_wp2
    go_ret
    exact ⟨by rw [HO.out]; rfl, HB.out⟩
   ·by_cases h2 : x > 1073741824
    ·have HO : Aside0 (idxOf l 0 = (j : Int)) := ⟨by rw [HI.out, HS.out, if_pos (by unfold oddW; exact decide_eq_true (.inr h2))]⟩
     go_wp2
     go_ret
     exact ⟨by rw [HO.out]; rfl, HB.out⟩
    ·have HO : Aside0 (idxOf l 0 = idxOf l (j + 1)) := ⟨by rw [HI.out, HS.out, if_neg (by unfold oddW; rw [decide_eq_true_eq]; omega)]⟩
     go_wp2
     go_roundw
     case rel => exact ⟨j + 1, by go_num, by omega, HB, HO⟩
     case measure => simp [intOf]; omega
  ·have HO : Aside0 (idxOf l 0 = -1) := ⟨by rw [HI.out, idxOf_end (by omega)]⟩
   go_wp2
   go_ret
   exact ⟨by rw [HO.out]; rfl, HB.out⟩
set_option maxHeartbeats 1600000 in
set_option maxRecDepth 100000 in
theorem ContainsFunc_odd {w : World} {A : Option Addr} {c : Nat} {l : List Int} (hC : Kd.C (Kd.int .i64) w A l.length l) (hl : l.length ≤ 1000000000) :
  Calls Try.prog 95 #[.slice A l.length c, .func (.func 94) #[] #[]] w fun e w' => e = .returned (.bool (l.findIdx? oddW).isSome) ∧ Below w.heap.size w w' := by
 have HC := Aside0.mk hC
 clear hC
 go_enter Try.func95, Try.ntmps95
 go_wp2_with (fail)
 refine (IndexFunc_odd HC.out hl).mono ?_
 rintro e w1 ⟨rfl, hb⟩
 have HB := Aside0.mk hb
 have HP := Aside0.mk (idxOf_pos (l := l))
 clear hb
 have HE : Aside0 ((l.findIdx? oddW).isSome = decide (0 ≤ idxOf l 0)) := ⟨by rw [Bool.eq_iff_iff, decide_eq_true_eq]; exact HP.out.symm⟩
 clear HP
 generalize idxOf l 0 = x at HE ⊢
 go_wp2
 go_ret
 exact ⟨by rw [HE.out]; rfl, HB.out⟩
def dijkstra_Check.f (a0_0 : Int) (l0_1 : List S58) (l1 : List Int) : Option Int := if l0_1.length ≤ 1000000000 ∧ l1.length ≤ 1000000000 then some (dchk a0_0 l0_1 l1) else none
set_option maxHeartbeats 1600000 in
set_option maxRecDepth 100000 in
theorem dijkstra_Check.calls (a0_0 : Int) (A0_1 : Option Addr) (c0_1 : Nat) (l0_1 : List S58) (A1 : Option Addr) (c1 : Nat) (l1 : List Int) (r : Int) (w : World) (hr0_1 : Kd.C k58 w A0_1 l0_1.length l0_1) (hc0_1 : l0_1.length ≤ c0_1) (hr1 : Kd.C (Kd.int .i64) w A1 l1.length l1) (hc1 : l1.length ≤ c1) (h : dijkstra_Check.f a0_0 l0_1 l1 = some r) :
  Calls Try.prog 77 #[.agg #[.int .i64 a0_0, .slice A0_1 l0_1.length c0_1], .slice A1 l1.length c1] w fun e w' => e = .returned (.int .i64 r) ∧ Below w.heap.size w w' := by
 unfold dijkstra_Check.f at h
 split at h
 case isFalse => cases h
 rename_i hcond
 obtain ⟨hal, hll⟩ := hcond
 injection h with h
 have HRE := Aside0.mk h
 obtain ⟨kc, hkc⟩ := graph_Check.ev a0_0 l0_1 (by omega)
 have HKC := Aside0.mk (hkc kc (Nat.le_refl _))
 have HG := Aside0.mk hr0_1
 have HL := Aside0.mk hr1
 have HGC := Aside0.mk hc0_1
 clear hr0_1 hr1 hc0_1 hc1 hkc h
 go_enter Try.func77, Try.ntmps77
 go_upto_region 1 with (fail)
 have HBK := Aside0.mk (heap_alloc_new w (Obj.cells #[.int .i64 a0_0, .slice A0_1 l0_1.length c0_1] 24))
 have HBE : Below w.heap.size w (w.alloc (Obj.cells #[.int .i64 a0_0, .slice A0_1 l0_1.length c0_1] 24)) := (Below.refl _ _).alloc (Nat.le_refl _) _
 replace HG := Aside0.mk (Kd.C_below HG.out HBE)
 replace HL := Aside0.mk (Kd.C_below HL.out HBE)
 have HB := Aside0.mk HBE
 generalize w.alloc (Obj.cells #[.int .i64 a0_0, .slice A0_1 l0_1.length c0_1] 24) = w1 at HBK HG HL HB ⊢
 clear HBE
 have hc0 := (blk_cell HBK.out 0).trans rfl
 have hc1 := (blk_cell HBK.out 1).trans rfl
 go_wp2_with (fail)
 refine (graph_Check.calls kc a0_0 A0_1 c0_1 l0_1 _ _ HG.out HGC.out HKC.out).mono ?_
 rintro e w2 ⟨rfl, hb2⟩
 replace HBK := Aside0.mk (blk_below HBK.out hb2)
 replace HL := Aside0.mk (Kd.C_below HL.out hb2)
 replace HB := Aside0.mk (below_then HB.out (Nat.le_trans (Nat.le_refl _) HB.out.size) hb2)
 clear hb2 hc0 hc1 HKC HG HGC
 by_cases hchk : chk a0_0 l0_1 = 0
 ·rw [hchk]
  have hc0 := (blk_cell HBK.out 0).trans rfl
  have hc1 := (blk_cell HBK.out 1).trans rfl
  by_cases hlen : l1.length = l0_1.length
  ·have hlen2 : (l1.length : Int) = (l0_1.length : Int) := by rw [hlen]
   have HR2 : Aside0 (r = if (l1.findIdx? oddW).isSome = true then 17 else 0) := ⟨by rw [← HRE.out]; unfold dchk; rw [if_neg (fun h => h hchk), if_neg (fun h => h hlen)]⟩
   have HLX := Aside0.mk hlen
   go_wp2_with (fail)
   rw [← hlen]
   refine (ContainsFunc_odd HL.out hll).mono ?_
   rintro e w3 ⟨rfl, hb3⟩
   replace HB := Aside0.mk (below_then HB.out (Nat.le_trans (Nat.le_refl _) HB.out.size) hb3)
   clear hb3 hlen hlen2 hc0 hc1
   generalize (l1.findIdx? oddW).isSome = b at HR2 ⊢
   cases b with
   | true =>
    have HR3 : Aside0 (r = 17) := ⟨by rw [HR2.out]; rfl⟩
    go_wp2
    go_ret
    exact ⟨by rw [HR3.out]; rfl, HB.out⟩
   | false =>
    have HR3 : Aside0 (r = 0) := ⟨by rw [HR2.out]; rfl⟩
    go_wp2
    go_ret
    exact ⟨by rw [HR3.out]; rfl, HB.out⟩
  ·have hlen2 : ¬ (l1.length : Int) = (l0_1.length : Int) := by omega
   have HR2 : Aside0 (r = 17) := ⟨by rw [← HRE.out]; unfold dchk; rw [if_neg (fun h => h hchk), if_pos hlen]⟩
   go_wp2
   go_ret
   exact ⟨by rw [HR2.out]; rfl, HB.out⟩
 ·have HR2 : Aside0 (r = chk a0_0 l0_1) := ⟨by rw [← HRE.out]; unfold dchk; rw [if_pos hchk]⟩
  generalize chk a0_0 l0_1 = oe at HR2 hchk ⊢
  go_wp2
  go_ret
  exact ⟨by rw [HR2.out]; rfl, HB.out⟩
end Go.Proofs.Ytfnophaiamkmpaa.Print
