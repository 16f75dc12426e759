/- Several texts of this claim in one: F21, HQUpl, HQLaw6. -/
import Derived.Test.YtfnophaiamkmpaaPrint0
import Derived.Test.YtfnophaiamkmpaaEq0
import Derived.Test.YtfnophaiamkmpaaM0
import Derived.Test.YtfnophaiamkmpaaM33
import Derived.Test.YtfnophaiamkmpaaM27
namespace Go.Proofs.Ytfnophaiamkmpaa.Print
open Go.RowKit Go.Proofs.YtfnophaiamkmpaaW.PrintWords Go.Proofs.YtfnophaiamkmpaaW.PrintLast Go.Proofs.YtfnophaiamkmpaaW.PrintMore
attribute [local go_sem] max2_int min2_int max_two min_two max_three min_three max_four min_four   -- for this text's walks alone
set_option linter.unusedVariables false
set_option linter.unusedSimpArgs false
attribute [local go_sem high] eqA50
/-! ### mapmakerref42_Same: function 21 -/
def mapmakerref42_Same.l0 : Nat → List (S50) → List (S50) → Int → Option (Bool)
 | 0, _, _, _ => none
 | k + 1, x0, x1, x5 => if x5 < (x0.length : Int) then (if 0 ≤ x5 then (if x5 < (x1.length : Int) then (if (!(((rd_T50 x0 x5).f0) == ((rd_T50 x1 x5).f0)) || (!(((rd_T50 x0 x5).f1) == ((rd_T50 x1 x5).f1)))) = true then (some false) else (mapmakerref42_Same.l0 k x0 x1 (wrap64 (x5 + 1)))) else (none)) else (none)) else (some true)
def mapmakerref42_Same.f (k : Nat) (l0 : List (S50)) (l1 : List (S50)) : Option (Bool) := if (l0.length : Int) = (l1.length : Int) then (mapmakerref42_Same.l0 k l0 l1 0) else (some false)
set_option maxHeartbeats 8000000 in
set_option maxRecDepth 100000 in
theorem mapmakerref42_Same.calls (k : Nat) (A0 : Option Addr) (c0 : Nat) (l0 : List (S50)) (A1 : Option Addr) (c1 : Nat) (l1 : List (S50)) (r : Bool) (w : World) (hr0 : Kd.C k50 w A0 l0.length l0) (hc0 : l0.length ≤ c0) (hr1 : Kd.C k50 w A1 l1.length l1) (hc1 : l1.length ≤ c1) (h : mapmakerref42_Same.f k l0 l1 = some r) :
  Calls Try.prog 21 #[.slice A0 l0.length c0, .slice A1 l1.length c1] w fun e w' => e = .returned (.bool r) ∧ Drawn0 w w' := by
 have hu50 := Try.underlying50; have HR0 := Aside0.mk hr0; have HC0 := Aside0.mk hc0; clear hr0 hc0; have HR1 := Aside0.mk hr1; have HC1 := Aside0.mk hc1; clear hr1 hc1
 have H : (if (l0.length : Int) = (l1.length : Int) then (mapmakerref42_Same.l0 k l0 l1 0) else (some false)) = some r := h
 clear h
 by_cases c3 : (l0.length : Int) = (l1.length : Int)
 ·rw [if_pos c3] at H
  have c3b0 : ((l0.length : Int) == (l1.length : Int)) = true := beq_iff_eq.mpr c3
  have c3b1 : ((l0.length : Int) != (l1.length : Int)) = false := bne_eq_false_iff_eq.mpr c3
  have c3b2 : (l0.length == l1.length) = true := by first | simpa using c3 | (simp at c3 ⊢; omega)
  clear c3
  have H' := Aside0.mk H
  clear H
  go_enter Try.func21, Try.ntmps21
  go_wp2
  repeat (go_quiet (fail); try go_wp2)
  go_loopg [5] k (fun kq v5 w' => ∃ (x5_1 : Int), v5 = .int .i64 x5_1 ∧ Aside0 (mapmakerref42_Same.l0 kq l0 l1 x5_1 = some r) ∧ Aside0 (kq ≤ k) ∧ Drawn0 w w')
  case atStart => exact ⟨(0), byF, H', ⟨Nat.le_refl _⟩, by repeat (first | exact Drawn0.refl _ | apply Drawn0.step)⟩
  case round =>
   clear H'
   try clear c1
   try clear c2
   try clear p2
   try clear c3
   try clear c3b0
   try clear c3b1
   try clear c3b2
   obtain ⟨x5_1, rfl, HA, HK1, ⟨m1, rfl⟩⟩ := hrel
   cases gk with
   | zero => exact absurd HA.out (by simp [mapmakerref42_Same.l0])
   | succ k1 =>
    have H := HA.out; clear HA
    simp only [mapmakerref42_Same.l0] at H
    by_cases c4 : x5_1 < (l0.length : Int)
    ·rw [if_pos c4] at H
     have c4b0 : decide (x5_1 < (l0.length : Int)) = true := decide_eq_true c4
     clear c4
     by_cases c5 : 0 ≤ x5_1
     ·rw [if_pos c5] at H
      have c5b0 : decide (0 ≤ x5_1) = true := decide_eq_true c5
      clear c5
      by_cases c6 : x5_1 < (l1.length : Int)
      ·rw [if_pos c6] at H
       have c6b0 : decide (x5_1 < (l1.length : Int)) = true := decide_eq_true c6
       clear c6
       by_cases c7 : (!(((rd_T50 l0 x5_1).f0) == ((rd_T50 l1 x5_1).f0)) || (!(((rd_T50 l0 x5_1).f1) == ((rd_T50 l1 x5_1).f1)))) = true
       ·rw [if_pos c7] at H
        have c7b0 : (!(((rd_T50 l0 x5_1).f0) == ((rd_T50 l1 x5_1).f0)) || (!(((rd_T50 l0 x5_1).f1) == ((rd_T50 l1 x5_1).f1)))) = true := c7
        clear c7
        obtain rfl := Option.some.inj H
        have p144 : 0 ≤ (x5_1 : Int) := odt
        have q144 : x5_1 < (l0.length : Int) := odt
        obtain ⟨ad144, e144, hx144_0, hx144_1⟩ := at_T50 HR0.out x5_1 p144 q144
        cases e144
        replace p144 := eq_true p144; replace q144 := eq_true q144
        have p145 : 0 ≤ (x5_1 : Int) := odt
        have q145 : x5_1 < (l1.length : Int) := odt
        obtain ⟨ad145, e145, hx145_0, hx145_1⟩ := at_T50 HR1.out x5_1 p145 q145
        cases e145
        replace p145 := eq_true p145; replace q145 := eq_true q145
        go_wp2
        repeat (go_quiet (fail); try go_wp2)
        go_ret
        exact ⟨by first | rfl | (simp; done) | (simp [*]; done), by repeat (first | exact Drawn0.refl _ | apply Drawn0.step)⟩
       ·rw [if_neg c7] at H
        have c7b0 : (!(((rd_T50 l0 x5_1).f0) == ((rd_T50 l1 x5_1).f0)) || (!(((rd_T50 l0 x5_1).f1) == ((rd_T50 l1 x5_1).f1)))) = false := by simpa using c7
        clear c7
        have H' := Aside0.mk H
        clear H
        have p144 : 0 ≤ (x5_1 : Int) := odt
        have q144 : x5_1 < (l0.length : Int) := odt
        obtain ⟨ad144, e144, hx144_0, hx144_1⟩ := at_T50 HR0.out x5_1 p144 q144
        cases e144
        replace p144 := eq_true p144; replace q144 := eq_true q144
        have p145 : 0 ≤ (x5_1 : Int) := odt
        have q145 : x5_1 < (l1.length : Int) := odt
        obtain ⟨ad145, e145, hx145_0, hx145_1⟩ := at_T50 HR1.out x5_1 p145 q145
        cases e145
        replace p145 := eq_true p145; replace q145 := eq_true q145
        go_wp2
        repeat (go_quiet (fail); try go_wp2)
        go_roundg k1
        case measure => have := HK1.out; omega
        case rel => exact ⟨(wrap64 (x5_1 + 1)), byF, H', ⟨by have := HK1.out; omega⟩, by repeat (first | exact Drawn0.refl _ | apply Drawn0.step)⟩
      ·rw [if_neg c6] at H
       exact absurd H (by simp)
     ·rw [if_neg c5] at H
      exact absurd H (by simp)
    ·rw [if_neg c4] at H
     have c4b0 : decide (x5_1 < (l0.length : Int)) = false := decide_eq_false c4
     clear c4
     obtain rfl := Option.some.inj H
     go_wp2
     repeat (go_quiet (fail); try go_wp2)
     go_ret
     exact ⟨by first | rfl | (simp; done) | (simp [*]; done), by repeat (first | exact Drawn0.refl _ | apply Drawn0.step)⟩
 ·rw [if_neg c3] at H
  have c3b0 : ((l0.length : Int) == (l1.length : Int)) = false := beq_eq_false_iff_ne.mpr c3
  have c3b1 : ((l0.length : Int) != (l1.length : Int)) = true := bne_iff_ne.mpr c3
  have c3b2 : (l0.length == l1.length) = false := by first | simpa using c3 | (simp at c3 ⊢; omega)
  obtain rfl := Option.some.inj H
  go_enter Try.func21, Try.ntmps21
  go_wp2
  repeat (go_quiet (fail); try go_wp2)
  go_ret
  exact ⟨by first | rfl | (simp; done) | (simp [*]; done), by repeat (first | exact Drawn0.refl _ | apply Drawn0.step)⟩
end Go.Proofs.Ytfnophaiamkmpaa.Print
namespace Go.Proofs.Ytfnophaiamkmpaa.Print
open Go.RowKit Go.Proofs.YtfnophaiamkmpaaW.PrintWords Go.Proofs.YtfnophaiamkmpaaW.PrintLast Go.Proofs.YtfnophaiamkmpaaW.PrintMore
set_option linter.unusedVariables false
set_option linter.unusedSimpArgs false
def upl (n : Nat) (arcs : List S58) (L ws : List Int) (b : Bool) (s : Int) : List S50 := if hasV n s = true then (climbF n arcs L ws b (rkV L s.toNat).toNat).l.map toR else []
theorem upl_at {n : Nat} {arcs : List S58} {L ws : List Int} (hk : Hk n arcs L) {b : Bool} {x : Nat} {s : Int} (hx : x < n) (hs : L.getD x 0 = s) : upl n arcs L ws b s = (climbF n arcs L ws b x).l.map toR := by
 have hv := hk.vtx_lt hx
 have hr := hk.rkV_at hx
 have e : s.toNat = vtx L x := by rw [← hs]
 unfold upl
 rw [if_pos (hasV_iff.2 ⟨vtx L x, hv.1, by rw [← hs]; exact hv.2⟩), e, hr, Int.toNat_natCast]
theorem upl_no {n : Nat} {arcs : List S58} {L ws : List Int} {b : Bool} {s : Int} (h : hasV n s = false) : upl n arcs L ws b s = [] := by
 unfold upl
 rw [if_neg (by rw [h]; exact Bool.false_ne_true)]
theorem query_Upward.upl {w : World} {q p n : Nat} {arcs : List S58} {L ws : List Int} (hk : Hk n arcs L) (hn : n ≤ 20) (hM : MetH w q p n arcs L ws) (hwl : ws.length = arcs.length) (hwr : ∀ i, i < ws.length → ws.getD i 0 ≤ 1073741824) (s : Int) (b : Bool) :
  Calls Try.prog 22 #[.pointer (some ⟨q, 0, none⟩), .int .i64 s, .bool b] w fun e w' => Below w.heap.size w w' ∧ ∃ A c, e = .returned (.slice A (Print.upl n arcs L ws b s).length c) ∧ (Print.upl n arcs L ws b s).length ≤ c ∧ Kd.C k50 w' A (Print.upl n arcs L ws b s).length (Print.upl n arcs L ws b s) := by
 refine (query_Upward.calls hk hn hM hwl hwr s b).mono ?_
 rintro e w' ⟨hb, (⟨hv, rfl⟩ | ⟨x, v, hx, hs, rfl, hr⟩)⟩
 ·rw [upl_no hv]
  obtain ⟨A, c, he, h1, h2⟩ := Kd.R_reads (Kd.R_nil k50 50 w' 0 (fun _ => True))
  exact ⟨hb, A, c, by rw [← he], h1, h2⟩
 ·rw [upl_at hk hx hs]
  obtain ⟨A, c, rfl, h1, h2⟩ := Kd.R_reads hr
  exact ⟨hb, A, c, rfl, h1, h2⟩
theorem ref42_Upward.upl {w : World} {n : Nat} {gA : Option Addr} {gc : Nat} {arcs : List S58} {lA : Option Addr} {lc : Nat} {L : List Int} {wA : Option Addr} {wc : Nat} {ws : List Int} (hk : Hk n arcs L) (hn : n ≤ 20) (hg : Kd.C k58 w gA arcs.length arcs) (hgc : arcs.length ≤ gc) (hl : Kd.C (Kd.int .i64) w lA L.length L) (hlc : L.length ≤ lc) (hw : Kd.C (Kd.int .i64) w wA ws.length ws) (hwc : ws.length ≤ wc) (hwl : ws.length = arcs.length) (hwr : ∀ i, i < ws.length → ws.getD i 0 ≤ 1073741824) (hal : arcs.length ≤ 1000000) (s : Int) (b : Bool) :
  Calls Try.prog 23 #[.agg #[.int .i64 (n : Int), .slice gA arcs.length gc], .slice lA L.length lc, .slice wA ws.length wc, .int .i64 s, .bool b] w fun e w' => Below w.heap.size w w' ∧ ∃ A c, e = .returned (.slice A (Print.upl n arcs L ws b s).length c) ∧ (Print.upl n arcs L ws b s).length ≤ c ∧ Kd.C k50 w' A (Print.upl n arcs L ws b s).length (Print.upl n arcs L ws b s) := by
 refine (ref42_Upward.calls hk hn hg hgc hl hlc hw hwc hwl hwr hal s b).mono ?_
 rintro e w' ⟨hb, (⟨hv, rfl⟩ | ⟨x, v, hx, hs, rfl, hr⟩)⟩
 ·rw [upl_no hv]
  obtain ⟨A, c, he, h1, h2⟩ := Kd.R_reads (Kd.R_nil k50 50 w' 0 (fun _ => True))
  exact ⟨hb, A, c, by rw [← he], h1, h2⟩
 ·rw [upl_at hk hx hs]
  obtain ⟨A, c, rfl, h1, h2⟩ := Kd.R_reads hr
  exact ⟨hb, A, c, rfl, h1, h2⟩
theorem same42_l0 (a : List S50) (hs : a.length ≤ 1000000000) : ∀ d j : Nat, j + d = a.length → Ev (fun k => mapmakerref42_Same.l0 k a a (j : Int)) true
 | 0, j, h => by
  refine Ev.step1 fun k => ?_
  simp only [mapmakerref42_Same.l0]
  rw [if_neg (by omega)]
 | d + 1, j, h => by
  have hj : j < a.length := by omega
  have ih := same42_l0 a hs d (j + 1) (by omega)
  refine Ev.step (fun k => ?_) ih
  simp only [mapmakerref42_Same.l0]
  rw [if_pos (by omega), if_pos (by omega), if_pos (by omega), if_neg (by simp), wrap_succ (by omega)]
theorem same42 (a : List S50) (hs : a.length ≤ 1000000000) : ∃ k, mapmakerref42_Same.f k a a = some true := by
 obtain ⟨k, hk⟩ := same42_l0 a hs a.length 0 (by omega)
 refine ⟨k, ?_⟩
 unfold mapmakerref42_Same.f
 rw [if_pos rfl]
 exact hk k (Nat.le_refl _)
theorem upl_len {n : Nat} {arcs : List S58} {L ws : List Int} (hk : Hk n arcs L) (hwl : ws.length = arcs.length) (hwr : ∀ i, i < ws.length → ws.getD i 0 ≤ 1073741824) (hn : n ≤ 20) (b : Bool) (s : Int) : (upl n arcs L ws b s).length ≤ 20 := by
 cases hv : hasV n s with
 | false => rw [upl_no hv]; simp
 | true =>
  obtain ⟨v, hv1, rfl⟩ := hasV_iff.1 hv
  obtain ⟨x, hx, _, hs⟩ := at_rank hk.ord hv1
  rw [upl_at hk hx hs, List.length_map, hk.upw hwl hwr hn hx]
  have := outU_len L (upI n L (relL n arcs L ws n).1 (relL n arcs L ws n).2.1 (rkV L) b x (n - x)) x (n - x)
  omega
def mapmakerlaw42_QueryUpward.f (a0_0 : Int) (l0_1 : List S58) (l0_2 : List Int) (l0_3 : List Int) (a1 : Int) : Option Bool := some true
set_option maxHeartbeats 3200000 in
set_option maxRecDepth 100000 in
theorem mapmakerlaw42_QueryUpward.calls (a0_0 : Int) (A0_1 : Option Addr) (c0_1 : Nat) (l0_1 : List S58) (A0_2 : Option Addr) (c0_2 : Nat) (l0_2 : List Int) (A0_3 : Option Addr) (c0_3 : Nat) (l0_3 : List Int) (a1 : Int) (r : Bool) (w : World) (hr0_1 : Kd.C k58 w A0_1 l0_1.length l0_1) (hc0_1 : l0_1.length ≤ c0_1) (hr0_2 : Kd.C (Kd.int .i64) w A0_2 l0_2.length l0_2) (hc0_2 : l0_2.length ≤ c0_2) (hr0_3 : Kd.C (Kd.int .i64) w A0_3 l0_3.length l0_3) (hc0_3 : l0_3.length ≤ c0_3) (h : mapmakerlaw42_QueryUpward.f a0_0 l0_1 l0_2 l0_3 a1 = some r) :
  Calls Try.prog 5 #[.agg #[.int .i64 a0_0, .slice A0_1 l0_1.length c0_1, .slice A0_2 l0_2.length c0_2, .slice A0_3 l0_3.length c0_3], .int .i64 a1] w fun e w' => e = .returned (.bool r) ∧ Below w.heap.size w w' := by
 injection h with h
 subst h
 obtain ⟨kv, fb, hfb, hfw⟩ := valid42 a0_0 l0_1 l0_2 l0_3
 have HFB := Aside0.mk hfb
 have HFW := Aside0.mk hfw
 have HG := Aside0.mk hr0_1
 have HL := Aside0.mk hr0_2
 have HW := Aside0.mk hr0_3
 have HGC := Aside0.mk hc0_1
 have HLC := Aside0.mk hc0_2
 have HWC := Aside0.mk hc0_3
 clear hr0_1 hr0_2 hr0_3 hc0_1 hc0_2 hc0_3 hfb hfw
 go_enter Try.func5, Try.ntmps5
 go_wp2_with (fail)
 have HBK := Aside0.mk (heap_alloc_new w (Obj.cells #[.int .i64 a0_0, .slice A0_1 l0_1.length c0_1, .slice A0_2 l0_2.length c0_2, .slice A0_3 l0_3.length c0_3] 27))
 have HBE : Below w.heap.size w (w.alloc (Obj.cells #[.int .i64 a0_0, .slice A0_1 l0_1.length c0_1, .slice A0_2 l0_2.length c0_2, .slice A0_3 l0_3.length c0_3] 27)) := (Below.refl _ _).alloc (Nat.le_refl _) _
 replace HG := Aside0.mk (Kd.C_below HG.out HBE)
 replace HL := Aside0.mk (Kd.C_below HL.out HBE)
 replace HW := Aside0.mk (Kd.C_below HW.out HBE)
 have HB := Aside0.mk HBE
 generalize w.alloc (Obj.cells #[.int .i64 a0_0, .slice A0_1 l0_1.length c0_1, .slice A0_2 l0_2.length c0_2, .slice A0_3 l0_3.length c0_3] 27) = w1 at HBK HG HL HW HB ⊢
 clear HBE
 refine (mapmakerlaw42_valid.calls kv a0_0 A0_1 c0_1 l0_1 A0_2 c0_2 l0_2 A0_3 c0_3 l0_3 fb w1 HG.out HGC.out HL.out HLC.out HW.out HWC.out HFB.out).mono ?_
 rintro e w2 ⟨rfl, hb2⟩
 replace HBK := Aside0.mk (blk_below HBK.out hb2)
 replace HG := Aside0.mk (Kd.C_below HG.out hb2)
 replace HL := Aside0.mk (Kd.C_below HL.out hb2)
 replace HW := Aside0.mk (Kd.C_below HW.out hb2)
 replace HB := Aside0.mk (below_then HB.out HB.out.size hb2)
 clear hb2
 cases fb with
 | false =>
  clear HFW
  go_wp2_with (fail)
  refine (mapmakerlaw42_lives.calls _).mono ?_
  rintro e wl ⟨rfl, hbl⟩
  replace HB := Aside0.mk (below_then HB.out HB.out.size hbl)
  clear hbl
  go_wp2
  go_ret
  exact ⟨rfl, HB.out⟩
 | true =>
  obtain ⟨n, rfl, ho⟩ := HFW.out rfl
  have HO := Aside0.mk ho
  clear ho HFW HFB
  have c0 := (blk_cell HBK.out 0).trans rfl
  have c1 := (blk_cell HBK.out 1).trans rfl
  have c2 := (blk_cell HBK.out 2).trans rfl
  have c3 := (blk_cell HBK.out 3).trans rfl
  go_wp2_with (fail)
  refine (law42_metric.calls HG.out HGC.out HL.out HLC.out HW.out HWC.out HO.out).mono ?_
  rintro e w3 ⟨hb3, q, p, rfl, hM⟩
  have HM := Aside0.mk hM
  replace HBK := Aside0.mk (blk_below HBK.out hb3)
  replace HG := Aside0.mk (Kd.C_below HG.out hb3)
  replace HL := Aside0.mk (Kd.C_below HL.out hb3)
  replace HW := Aside0.mk (Kd.C_below HW.out hb3)
  replace HB := Aside0.mk (below_then HB.out HB.out.size hb3)
  have hpc := HO.out.pc q p
  clear hM hb3 c0 c1 c2 c3
  have c0 := (blk_cell HBK.out 0).trans rfl
  have c1 := (blk_cell HBK.out 1).trans rfl
  have c2 := (blk_cell HBK.out 2).trans rfl
  have c3 := (blk_cell HBK.out 3).trans rfl
  go_upto_region 6 with (fail)
  refine s_ (fun w' => w'.cell? ⟨w.heap.size, 0, none⟩ = some (.int .i64 (n : Int)) ∧ w'.cell? ⟨w.heap.size, 1, none⟩ = some (.slice A0_1 l0_1.length c0_1) ∧ w'.cell? ⟨w.heap.size, 2, none⟩ = some (.slice A0_2 l0_2.length c0_2) ∧ w'.cell? ⟨w.heap.size, 3, none⟩ = some (.slice A0_3 l0_3.length c0_3)) [] ⟨c0, c1, c2, c3⟩ (fun hHeld => ?_)
  have hbd : Below w3.heap.size w3 w3.drew := below_drew (Below.refl _ _)
  replace HM := Aside0.mk (HM.out.below hbd)
  replace HBK := Aside0.mk (blk_below HBK.out hbd)
  replace HG := Aside0.mk (Kd.C_below HG.out hbd)
  replace HL := Aside0.mk (Kd.C_below HL.out hbd)
  replace HW := Aside0.mk (Kd.C_below HW.out hbd)
  replace HB := Aside0.mk (below_then HB.out HB.out.size hbd)
  clear hbd c0 c1 c2 c3
  generalize w3.drew = wd at HM HBK HG HL HW HB hHeld ⊢
  refine p_ 0 14 ?_
  refine p_ 1 15 ?_
  refine p_ 3 17 ?_
  refine t4_ 4 18 hHeld ?_
  refine p_ 5 19 ?_
  refine t4_ 6 20 hHeld ?_
  refine p_ 7 21 ?_
  refine t4_ 8 22 hHeld ?_
  refine p_ 9 23 ?_
  refine o_ 2 16 (fun K hK => ?_)
  refine goes_ Try.func22 (by kernel_rfl) rfl #[.pointer (some ⟨q, 0, none⟩), .int .i64 a1, .bool false] (by rfl) rfl rfl byL ?_
  refine (query_Upward.upl HO.out.hk hpc.hn HM.out hpc.wl hpc.wr a1 false).mono ?_
  rintro e wN ⟨hb, B1, d1, rfl, hd1, hC1⟩
  replace HM := Aside0.mk (HM.out.below hb)
  replace HBK := Aside0.mk (blk_below HBK.out hb)
  replace HG := Aside0.mk (Kd.C_below HG.out hb)
  replace HL := Aside0.mk (Kd.C_below HL.out hb)
  replace HW := Aside0.mk (Kd.C_below HW.out hb)
  replace HB := Aside0.mk (below_then HB.out HB.out.size hb)
  have HU := Aside0.mk hC1
  have HUC := Aside0.mk hd1
  refine ⟨_, rfl, ?_⟩
  refine hK.out _ _ ⟨pw_cell_below hb hHeld.1, pw_cell_below hb hHeld.2.1, pw_cell_below hb hHeld.2.2.1, pw_cell_below hb hHeld.2.2.2⟩ (fun hHeld => ?_)
  clear hK K
  refine n_ 16 ?_
  clear hb hC1 hd1
  refine o_ 10 24 (fun K hK => ?_)
  refine goes_ Try.func23 (by kernel_rfl) rfl #[.agg #[.int .i64 (n : Int), .slice A0_1 l0_1.length c0_1], .slice A0_2 l0_2.length c0_2, .slice A0_3 l0_3.length c0_3, .int .i64 a1, .bool false] (by rfl) rfl rfl byL ?_
  refine (ref42_Upward.upl HO.out.hk hpc.hn HG.out HGC.out HL.out HLC.out HW.out HWC.out hpc.wl hpc.wr (by have := HO.out.al; omega) a1 false).mono ?_
  rintro e wN ⟨hb, B2, d2, rfl, hd2, hC2⟩
  replace HM := Aside0.mk (HM.out.below hb)
  replace HBK := Aside0.mk (blk_below HBK.out hb)
  replace HG := Aside0.mk (Kd.C_below HG.out hb)
  replace HL := Aside0.mk (Kd.C_below HL.out hb)
  replace HW := Aside0.mk (Kd.C_below HW.out hb)
  replace HB := Aside0.mk (below_then HB.out HB.out.size hb)
  replace HU := Aside0.mk (Kd.C_below HU.out hb)
  have HV := Aside0.mk hC2
  have HVC := Aside0.mk hd2
  refine ⟨_, rfl, ?_⟩
  refine hK.out _ _ ⟨pw_cell_below hb hHeld.1, pw_cell_below hb hHeld.2.1, pw_cell_below hb hHeld.2.2.1, pw_cell_below hb hHeld.2.2.2⟩ (fun hHeld => ?_)
  clear hK K
  refine n_ 24 ?_
  clear hb hC2 hd2
  obtain ⟨k1, hk1⟩ := same42 (upl n l0_1 l0_2 l0_3 false a1) (by have := upl_len (b := false) (s := a1) HO.out.hk hpc.wl hpc.wr hpc.hn; omega)
  refine o_ 11 25 (fun K hK => ?_)
  refine goes_ Try.func21 (by kernel_rfl) rfl #[.slice B1 (upl n l0_1 l0_2 l0_3 false a1).length d1, .slice B2 (upl n l0_1 l0_2 l0_3 false a1).length d2] (by rfl) rfl rfl byL ?_
  refine (mapmakerref42_Same.calls k1 B1 d1 (upl n l0_1 l0_2 l0_3 false a1) B2 d2 (upl n l0_1 l0_2 l0_3 false a1) true _ HU.out HUC.out HV.out HVC.out hk1).mono ?_
  rintro e wN ⟨rfl, hdr⟩
  have hb := hdr.below
  replace HM := Aside0.mk (HM.out.below hb)
  replace HBK := Aside0.mk (blk_below HBK.out hb)
  replace HG := Aside0.mk (Kd.C_below HG.out hb)
  replace HL := Aside0.mk (Kd.C_below HL.out hb)
  replace HW := Aside0.mk (Kd.C_below HW.out hb)
  replace HB := Aside0.mk (below_then HB.out HB.out.size hb)
  refine ⟨_, rfl, ?_⟩
  refine hK.out _ _ ⟨pw_cell_below hb hHeld.1, pw_cell_below hb hHeld.2.1, pw_cell_below hb hHeld.2.2.1, pw_cell_below hb hHeld.2.2.2⟩ (fun hHeld => ?_)
  clear hK K
  refine n_ 25 ?_
  clear hb hdr HU HUC HV HVC hk1
  refine p_ 12 26 ?_
  refine p_ 13 27 ?_
  refine p_ 14 28 ?_
  refine p_ 16 30 ?_
  refine t4_ 17 31 hHeld ?_
  refine p_ 18 32 ?_
  refine t4_ 19 33 hHeld ?_
  refine p_ 20 34 ?_
  refine t4_ 21 35 hHeld ?_
  refine p_ 22 36 ?_
  refine o_ 15 29 (fun K hK => ?_)
  refine goes_ Try.func22 (by kernel_rfl) rfl #[.pointer (some ⟨q, 0, none⟩), .int .i64 a1, .bool true] (by rfl) rfl rfl byL ?_
  refine (query_Upward.upl HO.out.hk hpc.hn HM.out hpc.wl hpc.wr a1 true).mono ?_
  rintro e wN ⟨hb, B3, d3, rfl, hd3, hC3⟩
  replace HM := Aside0.mk (HM.out.below hb)
  replace HBK := Aside0.mk (blk_below HBK.out hb)
  replace HG := Aside0.mk (Kd.C_below HG.out hb)
  replace HL := Aside0.mk (Kd.C_below HL.out hb)
  replace HW := Aside0.mk (Kd.C_below HW.out hb)
  replace HB := Aside0.mk (below_then HB.out HB.out.size hb)
  have HU := Aside0.mk hC3
  have HUC := Aside0.mk hd3
  refine ⟨_, rfl, ?_⟩
  refine hK.out _ _ ⟨pw_cell_below hb hHeld.1, pw_cell_below hb hHeld.2.1, pw_cell_below hb hHeld.2.2.1, pw_cell_below hb hHeld.2.2.2⟩ (fun hHeld => ?_)
  clear hK K
  refine n_ 29 ?_
  clear hb hC3 hd3
  refine o_ 23 37 (fun K hK => ?_)
  refine goes_ Try.func23 (by kernel_rfl) rfl #[.agg #[.int .i64 (n : Int), .slice A0_1 l0_1.length c0_1], .slice A0_2 l0_2.length c0_2, .slice A0_3 l0_3.length c0_3, .int .i64 a1, .bool true] (by rfl) rfl rfl byL ?_
  refine (ref42_Upward.upl HO.out.hk hpc.hn HG.out HGC.out HL.out HLC.out HW.out HWC.out hpc.wl hpc.wr (by have := HO.out.al; omega) a1 true).mono ?_
  rintro e wN ⟨hb, B4, d4, rfl, hd4, hC4⟩
  replace HM := Aside0.mk (HM.out.below hb)
  replace HBK := Aside0.mk (blk_below HBK.out hb)
  replace HG := Aside0.mk (Kd.C_below HG.out hb)
  replace HL := Aside0.mk (Kd.C_below HL.out hb)
  replace HW := Aside0.mk (Kd.C_below HW.out hb)
  replace HB := Aside0.mk (below_then HB.out HB.out.size hb)
  replace HU := Aside0.mk (Kd.C_below HU.out hb)
  have HV := Aside0.mk hC4
  have HVC := Aside0.mk hd4
  refine ⟨_, rfl, ?_⟩
  refine hK.out _ _ ⟨pw_cell_below hb hHeld.1, pw_cell_below hb hHeld.2.1, pw_cell_below hb hHeld.2.2.1, pw_cell_below hb hHeld.2.2.2⟩ (fun hHeld => ?_)
  clear hK K
  refine n_ 37 ?_
  clear hb hC4 hd4
  obtain ⟨k3, hk3⟩ := same42 (upl n l0_1 l0_2 l0_3 true a1) (by have := upl_len (b := true) (s := a1) HO.out.hk hpc.wl hpc.wr hpc.hn; omega)
  refine o_ 24 38 (fun K hK => ?_)
  refine goes_ Try.func21 (by kernel_rfl) rfl #[.slice B3 (upl n l0_1 l0_2 l0_3 true a1).length d3, .slice B4 (upl n l0_1 l0_2 l0_3 true a1).length d4] (by rfl) rfl rfl byL ?_
  refine (mapmakerref42_Same.calls k3 B3 d3 (upl n l0_1 l0_2 l0_3 true a1) B4 d4 (upl n l0_1 l0_2 l0_3 true a1) true _ HU.out HUC.out HV.out HVC.out hk3).mono ?_
  rintro e wN ⟨rfl, hdr⟩
  have hb := hdr.below
  replace HM := Aside0.mk (HM.out.below hb)
  replace HBK := Aside0.mk (blk_below HBK.out hb)
  replace HG := Aside0.mk (Kd.C_below HG.out hb)
  replace HL := Aside0.mk (Kd.C_below HL.out hb)
  replace HW := Aside0.mk (Kd.C_below HW.out hb)
  replace HB := Aside0.mk (below_then HB.out HB.out.size hb)
  refine ⟨_, rfl, ?_⟩
  refine hK.out _ _ ⟨pw_cell_below hb hHeld.1, pw_cell_below hb hHeld.2.1, pw_cell_below hb hHeld.2.2.1, pw_cell_below hb hHeld.2.2.2⟩ (fun hHeld => ?_)
  clear hK K
  refine n_ 38 ?_
  clear hb hdr HU HUC HV HVC hk3
  refine p_ 25 39 ?_
  refine p_ 26 40 ?_
  refine o_ 27 41 (fun K hK => ?_)
  refine goes_ Try.func15 (by kernel_rfl) rfl #[] (by rfl) rfl rfl byL ?_
  refine (mapmakerlaw42_lives.calls _).mono ?_
  rintro e wN ⟨rfl, hb⟩
  replace HB := Aside0.mk (below_then HB.out HB.out.size hb)
  refine ⟨_, rfl, ?_⟩
  refine hK.out _ _ ⟨pw_cell_below hb hHeld.1, pw_cell_below hb hHeld.2.1, pw_cell_below hb hHeld.2.2.1, pw_cell_below hb hHeld.2.2.2⟩ (fun hHeld => ?_)
  clear hK K
  refine n_ 41 ?_
  clear hb
  refine p_ 28 42 ?_
  refine p_ 29 4 ?_
  refine d_ ?_
  clear hHeld
  go_wp2
  go_ret
  exact ⟨rfl, HB.out⟩
end Go.Proofs.Ytfnophaiamkmpaa.Print
