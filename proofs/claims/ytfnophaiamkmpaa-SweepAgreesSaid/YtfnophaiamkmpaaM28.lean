/- Several texts of this claim in one: F53, HQUpwG. -/
import Derived.Test.YtfnophaiamkmpaaPrint0
import Derived.Test.YtfnophaiamkmpaaM9
import Derived.Test.YtfnophaiamkmpaaM1
import Derived.Test.YtfnophaiamkmpaaHQUpw
import Derived.Test.YtfnophaiamkmpaaHQWtG
import Derived.Test.YtfnophaiamkmpaaM25
namespace Go.Proofs.Ytfnophaiamkmpaa.Print
open Go.RowKit Go.Proofs.YtfnophaiamkmpaaW.PrintWords Go.Proofs.YtfnophaiamkmpaaW.PrintLast Go.Proofs.YtfnophaiamkmpaaW.PrintMore
attribute [local go_sem] max2_int min2_int max_two min_two max_three min_three max_four min_four   -- for this text's walks alone
set_option linter.unusedVariables false
set_option linter.unusedSimpArgs false
/-! ### mapmakerref39_Ranks: function 53 -/
def mapmakerref39_Ranks.l0 : Nat → List Int → Int → List Int → Option (List Int)
 | 0, _, _, _ => none
 | k + 1, x0, x4, x12 => if x4 < (x0.length : Int) then (if 0 ≤ x4 then (if 0 ≤ (rd x0 x4) then (if (rd x0 x4) < (x12.length : Int) then (mapmakerref39_Ranks.l0 k x0 (wrap64 (x4 + 1)) (x12.set ((rd x0 x4) : Int).toNat x4)) else (none)) else (none)) else (none)) else (some x12)
def mapmakerref39_Ranks.f (k : Nat) (l0 : List Int) : Option (List Int) := (mapmakerref39_Check.f k (l0.length : Int) l0).bind fun t239 => (if t239 = 0 then (if 0 ≤ (l0.length : Int) then (if ((l0.length : Int) : Int).toNat ≤ 35184372088832 then (mapmakerref39_Ranks.l0 k l0 0 (List.replicate ((l0.length : Int) : Int).toNat 0)) else (none)) else (none)) else (some ([] : List Int)))
set_option maxHeartbeats 8000000 in
set_option maxRecDepth 100000 in
theorem mapmakerref39_Ranks.calls (k : Nat) (A0 : Option Addr) (c0 : Nat) (l0 : List Int) (r : List Int) (w : World) (hr0 : Kd.C (Kd.int .i64) w A0 l0.length l0) (hc0 : l0.length ≤ c0) (h : mapmakerref39_Ranks.f k l0 = some r) :
  Calls Try.prog 53 #[.slice A0 l0.length c0] w fun e w' => ∃ v0_ : Value, e = .returned (v0_) ∧ Kd.R (Kd.int .i64) 3 w' w.heap.size (fun _ => True) v0_ r ∧ Below w.heap.size w w' := by
 have HR0 := Aside0.mk hr0; have HC0 := Aside0.mk hc0; clear hr0 hc0; have HB := Aside0.mk (Below.refl w.heap.size w)
 have H : ((mapmakerref39_Check.f k (l0.length : Int) l0).bind fun t239 => (if t239 = 0 then (if 0 ≤ (l0.length : Int) then (if ((l0.length : Int) : Int).toNat ≤ 35184372088832 then (mapmakerref39_Ranks.l0 k l0 0 (List.replicate ((l0.length : Int) : Int).toNat 0)) else (none)) else (none)) else (some ([] : List Int)))) = some r := h
 clear h
 replace H := Option.bind_eq_some_iff.mp H
 obtain ⟨t239, A20, H⟩ := H
 replace H : (if t239 = 0 then (if 0 ≤ (l0.length : Int) then (if ((l0.length : Int) : Int).toNat ≤ 35184372088832 then (mapmakerref39_Ranks.l0 k l0 0 (List.replicate ((l0.length : Int) : Int).toNat 0)) else (none)) else (none)) else (some ([] : List Int))) = some r := H
 have A2 := Aside0.mk A20; clear A20
 by_cases c3 : t239 = 0
 ·rw [if_pos c3] at H
  have c3b0 : (t239 == 0) = true := beq_iff_eq.mpr c3
  have c3b1 : (t239 != 0) = false := bne_eq_false_iff_eq.mpr c3
  clear c3
  by_cases c4 : 0 ≤ (l0.length : Int)
  ·rw [if_pos c4] at H
   have c4b0 := eq_true c4
   have c4b1 : decide (0 ≤ (l0.length : Int)) = true := decide_eq_true c4
   clear c4
   by_cases c5 : ((l0.length : Int) : Int).toNat ≤ 35184372088832
   ·rw [if_pos c5] at H
    have c5b0 := eq_true c5
    have c5b1 : decide (((l0.length : Int) : Int).toNat ≤ 35184372088832) = true := decide_eq_true c5
    clear c5
    obtain ⟨y240, hy240⟩ : ∃ y_ : List Int, y_ = (List.replicate ((l0.length : Int) : Int).toNat 0) := ⟨_, rfl⟩
    replace H : (mapmakerref39_Ranks.l0 k l0 0 y240) = some r := by first | (rw [hy240]; with_reducible exact H) | (have H2_ := (Option.bind_some _ _).symm.trans H; rw [hy240]; with_reducible exact H2_) | (have H2_ := (Option.bind_some _ _).symm.trans H; with_reducible exact H2_) | with_reducible exact H | (rw [hy240]; exact H) | exact H
    have Ny240 := Aside0.mk hy240; clear hy240
    have H' := Aside0.mk H
    clear H
    go_enter Try.func53, Try.ntmps53
    go_wp2_with (first | ((with_reducible refine gate_callee (f := 44) rfl ?_); refine goesL_ (some 8) rfl rfl Try.func44 (by kernel_rfl) rfl #[.int .i64 (l0.length : Int), .slice A0 l0.length c0] rfl byL ?_; (with_reducible refine (mapmakerref39_Check.calls k (l0.length : Int) _ _ l0 t239 _ ?side1 ?side2 A2.out).mono ?_); (case side1 => repeat (first | exact HR0.out | (with_reducible refine Kd.C_alloc ?_ _) | (with_reducible refine Kd.C_drewN ?_ _) | (with_reducible refine Kd.C_drew ?_))); (case side2 => exact HC0.out); rintro e w' ⟨rfl, ⟨nd, rfl⟩⟩; refine ⟨_, rfl, ?_⟩) | ((with_reducible refine gate_dst (N := 12) rfl ?_); refine Kd.R_make (Kd.int .i64) _ 3 rfl (N := 12) rfl 25 _ _ rfl (l0.length : Int) rfl rfl Try.underlying25 (.int .i64 0) 8 info3 rfl (by decide) (by omega) 0 (ok := fun _ => True) (okp := fun _ => True) rfl (fun _ hk => hk) trivial (odt) (Nat.le_trans (Nat.mul_le_mul_right _ (odt : (l0.length : Int).toNat ≤ 35184372088832)) (by omega)) (Below.refl _ _) (Nat.le_refl _) ?_; intro v241 w6 ho7 hb hg_ hnew_; clear hg_ hnew_; (first | rw [← Ny240.out] at ho7 | (simp only [Int.reduceToNat] at ho7; rw [← Ny240.out] at ho7)); have n0_ := Aside0.mk (Kd.R_lower ho7 (below_size (byB HB.out))); have n1_ := Aside0.mk (below_step (byB HB.out) hb); clear HB; have HO242 := n0_; have HB := n1_; clear n0_ n1_ hb ho7))
    go_loopg [4] k (fun kq v4 w' => ∃ (x4_1 : Int) (x12_1 : List Int), v4 = .int .i64 x4_1 ∧ Aside0 (mapmakerref39_Ranks.l0 kq l0 x4_1 x12_1 = some r) ∧ Aside0 (kq ≤ k) ∧ Aside0 (Kd.R (Kd.int .i64) 3 w' w.heap.size (fun _ => True) v241 x12_1) ∧ Aside0 (Below w.heap.size w w'))
    case atStart => exact ⟨(0), (y240), byF, H', ⟨Nat.le_refl _⟩, ⟨by (with_reducible repeat (first | apply Kd.R_alloc | apply Kd.R_drewN | apply Kd.R_drew)); exact HO242.out⟩, ⟨byB HB.out⟩⟩
    case round =>
     clear H'
     try clear p2
     try clear c3
     try clear c3b0
     try clear c3b1
     try clear c4
     try clear c4b0
     try clear c4b1
     try clear c5
     try clear c5b0
     try clear c5b1
     obtain ⟨x4_1, x12_1, rfl, HA, HK1, HO_12, HB⟩ := hrel
     cases gk with
     | zero => exact absurd HA.out (by simp [mapmakerref39_Ranks.l0])
     | succ k1 =>
      have H := HA.out; clear HA
      simp only [mapmakerref39_Ranks.l0] at H
      by_cases c8 : x4_1 < (l0.length : Int)
      ·rw [if_pos c8] at H
       have c8b0 : decide (x4_1 < (l0.length : Int)) = true := decide_eq_true c8
       clear c8
       by_cases c9 : 0 ≤ x4_1
       ·rw [if_pos c9] at H
        have c9b0 : decide (0 ≤ x4_1) = true := decide_eq_true c9
        clear c9
        by_cases c10 : 0 ≤ (rd l0 x4_1)
        ·rw [if_pos c10] at H
         have c10b0 : decide (0 ≤ (rd l0 x4_1)) = true := decide_eq_true c10
         clear c10
         by_cases c11 : (rd l0 x4_1) < (x12_1.length : Int)
         ·rw [if_pos c11] at H
          have c11b0 : decide ((rd l0 x4_1) < (x12_1.length : Int)) = true := decide_eq_true c11
          clear c11
          obtain ⟨y244, hy244⟩ : ∃ y_ : List Int, y_ = (x12_1.set ((rd l0 x4_1) : Int).toNat x4_1) := ⟨_, rfl⟩
          replace H : (mapmakerref39_Ranks.l0 k1 l0 (wrap64 (x4_1 + 1)) y244) = some r := by first | (rw [hy244]; with_reducible exact H) | (have H2_ := (Option.bind_some _ _).symm.trans H; rw [hy244]; with_reducible exact H2_) | (have H2_ := (Option.bind_some _ _).symm.trans H; with_reducible exact H2_) | with_reducible exact H | (rw [hy244]; exact H) | exact H
          have Ny244 := Aside0.mk hy244; clear hy244
          have H' := Aside0.mk H
          clear H
          have p243 : 0 ≤ (x4_1 : Int) := odt
          have q243 : x4_1 < (l0.length : Int) := odt
          obtain ⟨ad243, e243, hx243_0⟩ := Kd.at_int HR0.out x4_1 p243 q243
          cases e243
          replace hx243_0 := (HB.out.cell (World.block_lt_of_cell? w _ hx243_0)).trans hx243_0
          replace p243 := eq_true p243; replace q243 := eq_true q243
          have p12 : 0 ≤ ((rd l0 x4_1) : Int) := odt
          have q12 : ((rd l0 x4_1) : Int) < ((x12_1.length : Int) : Int) := odt
          obtain ⟨go12, co12, eo12, gb12, gl12, cl12, HG12⟩ := Kd.R_form HO_12.out (by omega)
          (first | cases eo12 | (injection eo12 with ea_ en_ ec_; (first | subst ea_ | (injection ea_ with ea_; subst ea_)); subst ec_; clear en_))
          have GB12 := Aside0.mk gb12; have GG12 := Aside0.mk HG12; clear gb12 gl12 HG12
          obtain ⟨hx12_0, hf12_0⟩ := Kd.R_celln 0 HO_12.out ((rd l0 x4_1) : Int) p12 q12
          replace p12 := eq_true p12; replace q12 := eq_true q12
          have HP13 := Kd.R_putg HO_12.out ((rd l0 x4_1) : Int) x4_1
          go_wp2_with (first | ((with_reducible refine gate_store (t := 3) (p := 25) rfl ?_); refine store_event (t := 3) (p := 25) (v := ?vo_w14) (w1 := (wr.setCell ⟨go12, ((rd l0 x4_1) : Int).toNat, none⟩ (.int .i64 x4_1))) ?hg ?ho ?hn ?hr ?_; (case ho => rfl); (case hg => rfl); (case hn => rfl); (case hr => first | (go_simp; done) | (go_simp; rfl)); intro w14 hw; have hg : wr.grownBy w14 (some go12) := (by rw [hw]; exact HP13.2); have hp_ : Kd.R (Kd.int .i64) 3 w14 w.heap.size (fun _ => True) (.slice (some ⟨go12, 0, none⟩) x12_1.length co12) y244 := (by rw [hw, Ny244.out]; exact HP13.1); clear HP13; have n0_ := Aside0.mk (hp_); have n1_ := Aside0.mk ((by rw [hw]; exact below_set (HB.out) GB12.out : Below w.heap.size w w14)); clear HO_12 HB; have HO_12 := n0_; have HB := n1_; clear n0_ n1_ hg hw hp_))
          go_roundg k1
          case measure => have := HK1.out; omega
          case rel => exact ⟨(wrap64 (x4_1 + 1)), (y244), byF, H', ⟨by have := HK1.out; omega⟩, ⟨by (with_reducible repeat (first | apply Kd.R_alloc | apply Kd.R_drewN | apply Kd.R_drew)); exact HO_12.out⟩, ⟨byB HB.out⟩⟩
         ·rw [if_neg c11] at H
          exact absurd H (by simp)
        ·rw [if_neg c10] at H
         exact absurd H (by simp)
       ·rw [if_neg c9] at H
        exact absurd H (by simp)
      ·rw [if_neg c8] at H
       have c8b0 : decide (x4_1 < (l0.length : Int)) = false := decide_eq_false c8
       clear c8
       obtain rfl := Option.some.inj H
       go_wp2
       go_ret
       exact ⟨_, byE, by (with_reducible repeat (first | apply Kd.R_alloc | apply Kd.R_drewN | apply Kd.R_drew)); exact HO_12.out, byB HB.out⟩
   ·rw [if_neg c5] at H
    exact absurd H (by simp)
  ·rw [if_neg c4] at H
   exact absurd H (by simp)
 ·rw [if_neg c3] at H
  have c3b0 : (t239 == 0) = false := beq_eq_false_iff_ne.mpr c3
  have c3b1 : (t239 != 0) = true := bne_iff_ne.mpr c3
  obtain rfl := Option.some.inj H
  go_enter Try.func53, Try.ntmps53
  go_wp2_with (first | ((with_reducible refine gate_callee (f := 44) rfl ?_); refine goesL_ (some 8) rfl rfl Try.func44 (by kernel_rfl) rfl #[.int .i64 (l0.length : Int), .slice A0 l0.length c0] rfl byL ?_; (with_reducible refine (mapmakerref39_Check.calls k (l0.length : Int) _ _ l0 t239 _ ?side1 ?side2 A2.out).mono ?_); (case side1 => repeat (first | exact HR0.out | (with_reducible refine Kd.C_alloc ?_ _) | (with_reducible refine Kd.C_drewN ?_ _) | (with_reducible refine Kd.C_drew ?_))); (case side2 => exact HC0.out); rintro e w' ⟨rfl, ⟨nd, rfl⟩⟩; refine ⟨_, rfl, ?_⟩))
  go_ret
  exact ⟨_, byE, by first | exact Kd.R_nil _ _ _ _ _ | exact Kd.N_nil _ _ _ _ _ | exact Kd.V_nil _ _ _ _ _ | exact Kd.Q_nil _ _ _ _ _ | exact Kd.S_nil _ _ _ _ _, byB HB.out⟩
end Go.Proofs.Ytfnophaiamkmpaa.Print
namespace Go.Proofs.Ytfnophaiamkmpaa.Print
open Go.RowKit Go.Proofs.YtfnophaiamkmpaaW.PrintWords Go.Proofs.YtfnophaiamkmpaaW.PrintLast Go.Proofs.YtfnophaiamkmpaaW.PrintMore
set_option linter.unusedVariables false
set_option linter.unusedSimpArgs false
def colC (n : Nat) (C : Nat → Int) : Array Value := ((List.range n).map (fun i => Value.int .i64 (C i))).toArray
theorem colC_get {n j : Nat} {C : Nat → Int} (h : j < n) : (colC n C)[j]? = some (.int .i64 (C j)) := by simp [colC, h]
theorem colC_set {n v : Nat} {C : Nat → Int} {d : Int} : (colC n C).setIfInBounds v (.int .i64 d) = colC n (fset C v d) := by
 refine Array.ext ?_ (fun i h1 h2 => ?_)
 ·simp [colC]
 ·unfold fset
  by_cases e : v = i
  ·subst e
   simp [colC, Array.getElem_setIfInBounds]
  ·have e2 : ¬ i = v := fun x => e x.symm
   simp [colC, Array.getElem_setIfInBounds, e, e2]
theorem rowC_col (n : Nat) : rowC n n = colC n (fun _ => mInf) := by
 refine Array.ext ?_ (fun i h1 h2 => ?_)
 ·simp [rowC, colC]
 ·have hi : i < n := by simpa [rowC] using h1
  simp [rowC, colC, hi]
theorem outU_len (L : List Int) (C : Nat → Int) (x : Nat) : ∀ d, (outU L C x d).length ≤ d
 | 0 => Nat.le_refl _
 | d + 1 => by
  have := outU_len L C x d
  unfold outU
  rw [List.length_append]
  split
  ·simp; omega
  ·simp; omega
theorem rk39_l0 (l : List Int) (hl : l.length < 1000000000000) (ho : ordGo l.length l.length [] l = 0) : ∀ (d i : Nat), i + d = l.length → Ev (fun k => mapmakerref39_Ranks.l0 k l (i : Int) (ranksTo l i)) (ranksTo l l.length)
 | 0, i, h => by
  have hi : i = l.length := by omega
  subst hi
  refine Ev.step (f := fun _ => some (ranksTo l l.length)) (fun k => ?_) (Ev.now _)
  rw [mapmakerref39_Ranks.l0, if_neg (by omega)]
 | d + 1, i, h => by
  have hi : i < l.length := by omega
  have hv := (ord_all l [] ho).1 l[i] (List.getElem_mem hi)
  have hlen := ranksTo_length l i
  refine Ev.step (fun k => ?_) (rk39_l0 l hl ho d (i + 1) (by omega))
  rw [mapmakerref39_Ranks.l0, if_pos (by omega), if_pos (by omega), rd_get l hi, if_pos hv.1, if_pos (by rw [hlen]; exact hv.2), wrap_succ (show i < 1000000000000000 by omega)]
  show _ = mapmakerref39_Ranks.l0 k l _ ((ranksTo l i).set (l.getD i 0).toNat i)
  rw [show l.getD i 0 = l[i] by simp [List.getElem?_eq_getElem hi]]
theorem rk39_ev (l : List Int) (hl : l.length < 1000000000000) (ho : ordGo l.length l.length [] l = 0) : Ev (fun k => mapmakerref39_Ranks.f k l) (ranksTo l l.length) := by
 simp only [mapmakerref39_Ranks.f]
 refine Ev.bind (mapmakerref39_Check.ev l.length l hl) ?_
 simp only [ho, if_true]
 refine Ev.congr (fun k => ?_) (rk39_l0 l hl ho l.length 0 (by omega))
 rw [if_pos (by omega), if_pos (by omega), Int.toNat_natCast]
 rfl
theorem hk39 {n : Nat} {arcs : List S58} {L : List Int} (h : Hk n arcs L) : ∃ k, ∀ k', k ≤ k' → mapmakerref39_Ranks.f k' L = some (ranksTo L L.length) := by
 have hl := h.ord.len
 have hn := (chk_ok h.chk).2.1
 exact rk39_ev L (by omega) (by have := ord_of_isOrd h.ord; rw [← hl] at this; exact this)
set_option maxHeartbeats 6400000 in
set_option maxRecDepth 100000 in
theorem ref42_Upward.calls {w : World} {n : Nat} {gA : Option Addr} {gc : Nat} {arcs : List S58} {lA : Option Addr} {lc : Nat} {L : List Int} {wA : Option Addr} {wc : Nat} {ws : List Int} (hk : Hk n arcs L) (hn : n ≤ 20) (hg : Kd.C k58 w gA arcs.length arcs) (hgc : arcs.length ≤ gc) (hl : Kd.C (Kd.int .i64) w lA L.length L) (hlc : L.length ≤ lc) (hw : Kd.C (Kd.int .i64) w wA ws.length ws) (hwc : ws.length ≤ wc) (hwl : ws.length = arcs.length) (hwr : ∀ i, i < ws.length → ws.getD i 0 ≤ 1073741824) (hal : arcs.length ≤ 1000000) (s : Int) (b : Bool) :
  Calls Try.prog 23 #[.agg #[.int .i64 (n : Int), .slice gA arcs.length gc], .slice lA L.length lc, .slice wA ws.length wc, .int .i64 s, .bool b] w fun e w' => Below w.heap.size w w' ∧ ((hasV n s = false ∧ e = .returned (.slice none 0 0)) ∨
   (∃ (x : Nat) (v : Value), x < n ∧ L.getD x 0 = s ∧ e = .returned v ∧ Kd.R k50 50 w' w.heap.size (fun _ => True) v ((climbF n arcs L ws b x).l.map toR))) := by
 have HG := Aside0.mk hg
 have HL := Aside0.mk hl
 have HW := Aside0.mk hw
 have HCS := Aside0.mk (And.intro hgc (And.intro hlc hwc))
 have HK := Aside0.mk hk
 have HLL := Aside0.mk hk.ord.len
 have HWL := Aside0.mk hwl
 have HWR := Aside0.mk hwr
 have HC1 := Aside0.mk (hk.chk1 s)
 clear hg hgc hl hlc hw hwc hk hwl hwr
 rw [HLL.out, HWL.out]
 obtain ⟨m, HME⟩ : ∃ m, Aside0 (arcs.length = m) := ⟨_, ⟨rfl⟩⟩
 rw [HME.out] at hal ⊢
 go_enter Try.func23, Try.ntmps23
 go_upto_region 1 with (fail)
 have HBK := Aside0.mk (heap_alloc_new w (Obj.cells #[.int .i64 (n : Int), .slice gA m gc] 24))
 have HBE : Below w.heap.size w (w.alloc (Obj.cells #[.int .i64 (n : Int), .slice gA m gc] 24)) := (Below.refl _ _).alloc (Nat.le_refl _) _
 replace HG := Aside0.mk (Kd.C_below HG.out HBE)
 replace HL := Aside0.mk (Kd.C_below HL.out HBE)
 replace HW := Aside0.mk (Kd.C_below HW.out HBE)
 have HB := Aside0.mk HBE
 generalize w.alloc (Obj.cells #[.int .i64 (n : Int), .slice gA m gc] 24) = w1 at HBK HG HL HW HB ⊢
 clear HBE
 have c0 := (blk_cell HBK.out 0).trans rfl
 have c1 := (blk_cell HBK.out 1).trans rfl
 rcases HC1.out with ⟨_, h3⟩ | ⟨_, x, hx, hxs⟩
 ·have H3 := Aside0.mk h3
  have hns : s < 0 ∨ (n : Int) ≤ s := by
   unfold hasV at h3
   simp at h3
   omega
  clear h3
  by_cases h0 : s < 0
  ·go_wp2
   go_ret
   exact ⟨HB.out, .inl ⟨H3.out, rfl⟩⟩
  ·have h1 : (n : Int) ≤ s := by omega
   go_wp2
   go_ret
   exact ⟨HB.out, .inl ⟨H3.out, rfl⟩⟩
 ·obtain ⟨hv, hve⟩ := HK.out.vtx_lt hx
  rw [hve] at hxs
  subst hxs
  have hrx := HK.out.rkV_at hx
  obtain ⟨sv, HSV⟩ : ∃ sv, Aside0 (vtx L x = sv) := ⟨_, ⟨rfl⟩⟩
  rw [HSV.out] at hv hve hrx ⊢
  have HXS := Aside0.mk hve
  have HWT := ref42_Weights.calls HK.out (by omega) (by omega) HG.out HCS.out.1 HL.out HCS.out.2.1 HW.out HCS.out.2.2 HWL.out (by have := HME.out; omega)
  rw [HLL.out, HWL.out, HME.out] at HWT
  have HWT2 := Aside0.mk HWT
  have hle := hk39 HK.out
  have HK39 := Aside0.mk hle
  clear HWT hve HC1 hle
  go_wp2_with (fail)
  refine HWT2.out.mono ?_
  rintro e w2 ⟨hb2, vw, rfl, hwi⟩
  obtain ⟨lo, t, R, cap, rb, base, R2, cap2, Gb, rb2, g, rfl, hcap, hcap2, hTI, hTB⟩ := hwi.out
  replace HBK := Aside0.mk (blk_below HBK.out hb2)
  replace HB := Aside0.mk (below_then HB.out HB.out.size hb2)
  replace HL := Aside0.mk (Kd.C_below HL.out hb2)
  have HTI := Aside0.mk hTI
  have HTB := Aside0.mk hTB
  clear hb2 hwi hTI hTB HWT2 c0 c1 HG HW
  go_upto_region 4 with (fail)
  have hba : Below w2.heap.size w2 (w2.alloc (Obj.cells #[.slice (some ⟨R, 0, none⟩) n cap, .slice (some ⟨R2, 0, none⟩) n cap2] 62)) := (Below.refl _ _).alloc (Nat.le_refl _) _
  have HX := Aside0.mk (heap_alloc_new w2 (Obj.cells #[.slice (some ⟨R, 0, none⟩) n cap, .slice (some ⟨R2, 0, none⟩) n cap2] 62))
  replace HBK := Aside0.mk (blk_below HBK.out hba)
  replace HB := Aside0.mk (below_then HB.out HB.out.size hba)
  replace HL := Aside0.mk (Kd.C_below HL.out hba)
  replace HTI := Aside0.mk (HTI.out.below hba)
  replace HTB := Aside0.mk (HTB.out.below hba)
  clear hba
  generalize w2.alloc (Obj.cells #[.slice (some ⟨R, 0, none⟩) n cap, .slice (some ⟨R2, 0, none⟩) n cap2] 62) = w3 at HX HBK HB HL HTI HTB ⊢
  generalize w2.heap.size = bx at HX ⊢
  obtain ⟨kr, hkr⟩ := HK39.out
  have HRC := mapmakerref39_Ranks.calls kr lA lc L (ranksTo L L.length) w3 HL.out HCS.out.2.1 (hkr kr (Nat.le_refl _))
  have HRL := Aside0.mk ((ranksTo_length L L.length).trans HLL.out)
  obtain ⟨RK, HRK⟩ : ∃ RK, Aside0 (ranksTo L L.length = RK) := ⟨_, ⟨rfl⟩⟩
  rw [HRK.out] at HRC HRL
  rw [HLL.out] at HRC
  have HRC2 := Aside0.mk HRC
  clear HRC hkr HK39
  go_wp2_with (fail)
  refine HRC2.out.mono ?_
  rintro e w4 ⟨v4, rfl, hr4, hb4⟩
  obtain ⟨rA, rc, rfl, hrc, hrC⟩ := Kd.R_reads hr4
  have HRR := Aside0.mk hrC
  rw [HRL.out] at hrc ⊢
  replace HBK := Aside0.mk (blk_below HBK.out hb4)
  replace HX := Aside0.mk (blk_below HX.out hb4)
  replace HB := Aside0.mk (below_then HB.out HB.out.size hb4)
  replace HL := Aside0.mk (Kd.C_below HL.out hb4)
  replace HTI := Aside0.mk (HTI.out.below hb4)
  replace HTB := Aside0.mk (HTB.out.below hb4)
  have hmk := run_row n (by omega)
  have hrkx : RK.getD sv 0 = (x : Int) := by rw [← HRK.out]; exact hrx
  clear hb4 hr4 hrC HRC2 hrx
  have c0 := (blk_cell HBK.out 0).trans rfl
  go_wp2_with (fail)
  clear c0 hmk
  have HB1 : Aside0 (Below w4.heap.size w4 (w4.alloc (Obj.cells (rowC n 0) 3))) := ⟨(Below.refl _ _).alloc (Nat.le_refl _) _⟩
  have HR1 : Aside0 ((w4.alloc (Obj.cells (rowC n 0) 3)).heap[w4.heap.size]? = some (.cells (rowC n 0) 3 (0, 0))) := ⟨heap_alloc_new w4 _⟩
  generalize w4.alloc (Obj.cells (rowC n 0) 3) = w5 at HB1 HR1 ⊢
  go_loopw [14] (fun i wr => ∃ v : Nat, i = .int .i64 (v : Int) ∧ v ≤ n ∧ Aside0 (wr.heap[w4.heap.size]? = some (.cells (rowC n v) 3 (0, 0))) ∧ Aside0 (Below w4.heap.size w4 wr)) (fun i _ => n - (intOf i).toNat)
  case atStart => exact ⟨0, rfl, Nat.zero_le _, HR1, HB1⟩
  case round => as_aux_lemma =>
   clear HR1 HB1
   obtain ⟨v, rfl, hvn, HR, HBq⟩ := hrel
   have hc0 := (blk_cell (blk_below HBK.out HBq.out) 0).trans rfl
   by_cases hvl : v < n
   ·have hcv := (blk_cell HR.out v).trans (rowC_get hvl)
    have hfv : wr.frozen? ⟨w4.heap.size, v, none⟩ = false := fz_of_blk HR.out
    rw [if_neg (Nat.lt_irrefl v)] at hcv
    go_wp2_with (fail)
    go_roundw
    case rel => exact ⟨v + 1, by go_num, by omega, ⟨by rw [sb_put HR.out, rowC_set]⟩, ⟨below_put HBq.out _ _ (Nat.le_refl _)⟩⟩
    case measure => simp [intOf]; omega
   ·have hvn2 : v = n := by omega
    rw [hvn2, rowC_col] at HR
    have hcs := (blk_cell HR.out sv).trans (colC_get hv)
    have hfs : wr.frozen? ⟨w4.heap.size, sv, none⟩ = false := fz_of_blk HR.out
    go_upto_region 11 with (fail)
    have HCB : Aside0 ((wr.setCell ⟨w4.heap.size, sv, none⟩ (.int .i64 0)).heap[w4.heap.size]? = some (.cells (colC n (upI n L (relL n arcs L ws n).1 (relL n arcs L ws n).2.1 (rkV L) b x 0)) 3 (0, 0))) := ⟨by
     rw [sb_put HR.out, colC_set]
     show _ = some (Obj.cells (colC n (fset (fun _ => mInf) (vtx L x) 0)) _ _)
     rw [HSV.out]⟩
    have HBC := Aside0.mk (below_put HBq.out ⟨w4.heap.size, sv, none⟩ (.int .i64 0) (Nat.le_refl _))
    clear hcs hfs hc0 HR HBq hvl hvn2 hvn
    generalize wr.setCell ⟨w4.heap.size, sv, none⟩ (.int .i64 0) = w6 at HCB HBC ⊢
    obtain ⟨rkb, rko, rfl, hrk⟩ := cells_al (show Kd.C (Kd.int .i64) w6 rA RK.length RK from Kd.C_below HRR.out HBC.out) sv (by rw [HRL.out]; exact hv)
    rw [hrkx] at hrk
    go_wp2_with (fail)
    clear hrk
    go_loopw [15] (fun i wr => ∃ d : Nat, i = .int .i64 ((x + d : Nat) : Int) ∧ x + d ≤ n ∧ Aside0 (wr.heap[w4.heap.size]? = some (.cells (colC n (upI n L (relL n arcs L ws n).1 (relL n arcs L ws n).2.1 (rkV L) b x d)) 3 (0, 0))) ∧ Aside0 (Below w4.heap.size w4 wr)) (fun i _ => n - (intOf i).toNat)
    case atStart => exact ⟨0, rfl, by omega, HCB, HBC⟩
    case round => as_aux_lemma =>
     clear HCB HBC
     obtain ⟨d, rfl, hd, HC, HBq⟩ := hrel
     obtain ⟨jj, HIX⟩ : ∃ jj, Aside0 (x + d = jj) := ⟨_, ⟨rfl⟩⟩
     rw [HIX.out] at hd ⊢
     by_cases hdn : jj < n
     ·obtain ⟨lb, lo2, rfl, hlk⟩ := cells_al (Kd.C_below HL.out HBq.out) jj (by rw [HLL.out]; exact hdn)
      obtain ⟨hvd, hved⟩ := HK.out.vtx_lt hdn
      rw [hved] at hlk
      have HST := Aside0.mk (show upI n L (relL n arcs L ws n).1 (relL n arcs L ws n).2.1 (rkV L) b x (d + 1) = upU (relL n arcs L ws n).1 (relL n arcs L ws n).2.1 (rkV L) b (x + d) (vtx L (x + d)) (upI n L (relL n arcs L ws n).1 (relL n arcs L ws n).2.1 (rkV L) b x d) n from rfl)
      rw [HIX.out] at HST
      have HI1 : Aside0 (x + (d + 1) = jj + 1) := ⟨by rw [← HIX.out]; rfl⟩
      have HUR := Aside0.mk (HK.out.uinv (b := b) (ws := ws) HWL.out hx d (by have := HIX.out; omega)).rng
      have HSB := Aside0.mk (fun u => stepW_b (relL_b n arcs L ws n) b (vtx L jj) u)
      generalize vtx L jj = v at hvd hved hlk HST HSB
      generalize upI n L (relL n arcs L ws n).1 (relL n arcs L ws n).2.1 (rkV L) b x d = C at HC HST HUR
      generalize (relL n arcs L ws n).1 = W at HTI HST HSB
      generalize (relL n arcs L ws n).2.1 = M at HTB HST
      go_wp2_with (fail)
      clear hlk hved
      go_loopw [17] (fun i wr => ∃ u : Nat, i = .int .i64 (u : Int) ∧ u ≤ n ∧ Aside0 (wr.heap[w4.heap.size]? = some (.cells (colC n (upU W M (rkV L) b jj v C u)) 3 (0, 0))) ∧ Aside0 (Below w4.heap.size w4 wr)) (fun i _ => n - (intOf i).toNat)
      case atStart => exact ⟨0, rfl, Nat.zero_le _, HC, HBq⟩
      case round => as_aux_lemma =>
       clear HC HBq
       obtain ⟨u, rfl, hu, HC, HBq⟩ := hrel
       have hc0 := (blk_cell (blk_below HBK.out HBq.out) 0).trans rfl
       by_cases hun : u < n
       ·go_upto_region 18 with (fail)
        clear hc0
        have HSU := Aside0.mk (show upU W M (rkV L) b jj v C (u + 1) = if upC W M (rkV L) b jj v (upU W M (rkV L) b jj v C u) u then fset (upU W M (rkV L) b jj v C u) u (upU W M (rkV L) b jj v C u v + stepW W b v u) else upU W M (rkV L) b jj v C u from rfl)
        have hat := upU_at (W := W) (M := M) (R := rkV L) (b := b) (i := jj) (v := v) (C := C) (fun u => (HSB.out u).1) u
        have hbv : 0 ≤ upU W M (rkV L) b jj v C u v ∧ upU W M (rkV L) b jj v C u v ≤ mInf := by
         rw [hat, if_neg]
         ·exact HUR.out v
         ·rintro ⟨_, _, _, _, _, h⟩
          have := (HSB.out v).1
          omega
        have hbs := HSB.out u
        have z0 := (blk_cell HC.out v).trans (colC_get hvd)
        have z1 := (blk_cell HC.out u).trans (colC_get hun)
        have HTIr := Aside0.mk (HTI.out.below HBq.out)
        have HTBr := Aside0.mk (HTB.out.below HBq.out)
        have x0 := (blk_cell (blk_below HX.out HBq.out) 0).trans rfl
        have x1 := (blk_cell (blk_below HX.out HBq.out) 1).trans rfl
        have y1 := HTBr.out.row v hvd
        have y2 := HTBr.out.cel v hvd u hun
        obtain ⟨rkb', rko', hrA, hrk⟩ := cells_al (show Kd.C (Kd.int .i64) wr (some ⟨rkb, rko, none⟩) RK.length RK from Kd.C_below HRR.out HBq.out) u (by rw [HRL.out]; exact hun)
        injection hrA with hrA
        injection hrA with hr1 hr2
        subst hr1 hr2
        have HRU : Aside0 (RK.getD u 0 = rkV L u) := ⟨by rw [← HRK.out]⟩
        rw [HRU.out] at hrk
        generalize upU W M (rkV L) b jj v C u = D at HC HSU hbv z0 z1
        obtain ⟨D', HD'⟩ : ∃ D', Aside0 (upU W M (rkV L) b jj v C (u + 1) = D') := ⟨_, ⟨rfl⟩⟩
        rw [HD'.out] at HSU
        have HNO : Aside0 (¬(D v ≠ mInf ∧ M v u = true ∧ (jj : Int) ≤ rkV L u ∧ stepW W b v u < mInf ∧ D v + stepW W b v u < D u) → D' = D) := ⟨fun hno => by rw [HSU.out]; exact if_neg hno⟩
        have HYE : Aside0 (D v ≠ mInf → M v u = true → (jj : Int) ≤ rkV L u → stepW W b v u < mInf → D v + stepW W b v u < D u → D' = fset D u (D v + stepW W b v u)) := ⟨fun h1 h2 h3 h4 h5 => by rw [HSU.out]; exact if_pos ⟨h1, h2, h3, h4, h5⟩⟩
        generalize hDv : D v = cv at HNO HYE hbv z0
        generalize hDu : D u = cu at HNO HYE z1
        generalize hru : rkV L u = ru at HNO HYE hrk
        clear HSU hat HRU hDv hDu hru
        unfold mInf at hbv hbs
        by_cases h1 : cv = 1152921504606846976
        ·have HE2 := HNO.out (fun h => h.1 h1)
         rw [← HE2, ← HD'.out] at HC
         clear HE2 HNO HYE x0 x1 y1 y2 hrk z1
         go_wp2_with (fail)
         go_roundw
         case rel => exact ⟨u + 1, by go_num, by omega, HC, HBq⟩
         case measure => simp [intOf]; omega
        ·cases h2 : M v u with
         | false =>
          rw [h2] at y2
          have HE2 := HNO.out (fun h => by rw [h2] at h; cases h.2.1)
          rw [← HE2, ← HD'.out] at HC
          clear HE2 HNO HYE hrk z1
          go_wp2_with (fail)
          go_roundw
          case rel => exact ⟨u + 1, by go_num, by omega, HC, HBq⟩
          case measure => simp [intOf]; omega
         | true =>
          rw [h2] at y2
          by_cases h3 : (jj : Int) ≤ ru
          ·have h3' : ¬ ru < (jj : Int) := by omega
           have q1 : (cv == 1152921504606846976) = false := beq_eq_false_iff_ne.mpr h1
           go_upto_region 19 with (fail)
           clear q1 x1 y1 y2 hrk
           cases b with
           | false =>
            have z2 := HTIr.out.row v hvd
            have z3 := HTIr.out.cel v hvd u hun
            have hsw : stepW W false v u = W v u := rfl
            rw [hsw] at hbs HNO HYE
            generalize W v u = st at z3 hbs HNO HYE
            clear hsw
            go_upto_region 22 with (fail)
            clear z2 z3 x0
            have hwr : IntKind.i64.wrap (cv + st) = cv + st := by rw [i64_w]; unfold wrap64; omega
            refine s_ (fun w' => w'.cell? ⟨w4.heap.size, v, none⟩ = some (.int .i64 cv) ∧ w'.cell? ⟨w4.heap.size, u, none⟩ = some (.int .i64 cu)) [] ⟨z0, z1⟩ (fun hHeld => ?_)
            have HC2 : Aside0 (wr.drew.heap[w4.heap.size]? = some (.cells (colC n D) 3 (0, 0))) := ⟨HC.out⟩
            have HBd := Aside0.mk (below_drew HBq.out)
            clear HC HBq z0 z1 HTIr HTBr
            generalize wr.drew = wd at HC2 HBd hHeld ⊢
            by_cases h4 : st < 1152921504606846976
            ·by_cases h5 : cv + st < cu
             ·have HE2 := HYE.out h1 h2 h3 h4 h5
              refine p_ 0 111 ?_
              refine p_ 1 112 ?_
              refine p_ 2 113 ?_
              refine p_ 3 114 ?_
              refine p_ 4 115 ?_
              refine p_ 5 116 ?_
              refine t2_ 6 117 hHeld ?_
              refine p_ 7 118 ?_
              refine p_ 8 119 (v := .int .i64 (cv + st)) ?_ (hy := Or.inl ⟨by rfl, by intro w2; go_simp; try exact hwr⟩)
              refine p_ 9 120 ?_
              refine p_ 10 121 ?_
              refine p_ 11 122 ?_
              refine t2_ 12 123 hHeld ?_
              refine p_ 13 124 (v := .bool true) ?_ (hy := Or.inl ⟨by rfl, by intro w2; go_simp; try exact hwr⟩)
              refine p_ 14 125 ?_
              refine d_ ?_
              obtain ⟨z0, z1⟩ := hHeld
              have hfz : wd.frozen? ⟨w4.heap.size, u, none⟩ = false := fz_of_blk HC2.out
              go_wp2_with (fail)
              go_roundw
              case rel => exact ⟨u + 1, by go_num, by omega, ⟨by rw [sb_put HC2.out, colC_set, HD'.out, HE2]⟩, ⟨below_put HBd.out _ _ (Nat.le_refl _)⟩⟩
              case measure => simp [intOf]; omega
             ·have HE2 := HNO.out (fun h => h5 h.2.2.2.2)
              rw [← HE2, ← HD'.out] at HC2
              refine p_ 0 111 ?_
              refine p_ 1 112 ?_
              refine p_ 2 113 ?_
              refine p_ 3 114 ?_
              refine p_ 4 115 ?_
              refine p_ 5 116 ?_
              refine t2_ 6 117 hHeld ?_
              refine p_ 7 118 ?_
              refine p_ 8 119 (v := .int .i64 (cv + st)) ?_ (hy := Or.inl ⟨by rfl, by intro w2; go_simp; try exact hwr⟩)
              refine p_ 9 120 ?_
              refine p_ 10 121 ?_
              refine p_ 11 122 ?_
              refine t2_ 12 123 hHeld ?_
              refine p_ 13 124 (v := .bool false) ?_ (hy := Or.inl ⟨by rfl, by intro w2; go_simp; try exact hwr⟩)
              refine p_ 14 125 ?_
              refine d_ ?_
              clear hHeld
              go_wp2_with (fail)
              go_roundw
              case rel => exact ⟨u + 1, by go_num, by omega, HC2, HBd⟩
              case measure => simp [intOf]; omega
            ·have HE2 := HNO.out (fun h => h4 h.2.2.2.1)
             rw [← HE2, ← HD'.out] at HC2
             refine p_ 0 111 ?_
             refine p_ 1 112 ?_
             refine p_ 2 113 ?_
             refine p_ 3 114 (v := undef) ?_ (hy := Or.inr ⟨by rfl, by rfl⟩)
             refine p_ 4 115 (v := undef) ?_ (hy := Or.inr ⟨by rfl, by rfl⟩)
             refine p_ 5 116 (v := undef) ?_ (hy := Or.inr ⟨by rfl, by rfl⟩)
             refine p_ 6 117 (v := undef) ?_ (hy := Or.inr ⟨by rfl, by rfl⟩)
             refine p_ 7 118 (v := undef) ?_ (hy := Or.inr ⟨by rfl, by rfl⟩)
             refine p_ 8 119 (v := undef) ?_ (hy := Or.inr ⟨by rfl, by rfl⟩)
             refine p_ 9 120 (v := undef) ?_ (hy := Or.inr ⟨by rfl, by rfl⟩)
             refine p_ 10 121 (v := undef) ?_ (hy := Or.inr ⟨by rfl, by rfl⟩)
             refine p_ 11 122 (v := undef) ?_ (hy := Or.inr ⟨by rfl, by rfl⟩)
             refine p_ 12 123 (v := undef) ?_ (hy := Or.inr ⟨by rfl, by rfl⟩)
             refine p_ 13 124 (v := undef) ?_ (hy := Or.inr ⟨by rfl, by rfl⟩)
             refine p_ 14 125 ?_
             refine d_ ?_
             clear hHeld
             go_wp2_with (fail)
             go_roundw
             case rel => exact ⟨u + 1, by go_num, by omega, HC2, HBd⟩
             case measure => simp [intOf]; omega
           | true =>
            have z2 := HTIr.out.row v hvd
            have z3 := HTIr.out.cel v hvd u hun
            have z4 := HTIr.out.row u hun
            have z5 := HTIr.out.cel u hun v hvd
            have hsw : stepW W true v u = W u v := rfl
            rw [hsw] at hbs HNO HYE
            generalize W v u = st0 at z3
            generalize W u v = st at z5 hbs HNO HYE
            clear hsw
            go_upto_region 22 with (fail)
            clear z2 z3 z4 z5 x0
            have hwr : IntKind.i64.wrap (cv + st) = cv + st := by rw [i64_w]; unfold wrap64; omega
            refine s_ (fun w' => w'.cell? ⟨w4.heap.size, v, none⟩ = some (.int .i64 cv) ∧ w'.cell? ⟨w4.heap.size, u, none⟩ = some (.int .i64 cu)) [] ⟨z0, z1⟩ (fun hHeld => ?_)
            have HC2 : Aside0 (wr.drew.heap[w4.heap.size]? = some (.cells (colC n D) 3 (0, 0))) := ⟨HC.out⟩
            have HBd := Aside0.mk (below_drew HBq.out)
            clear HC HBq z0 z1 HTIr HTBr
            generalize wr.drew = wd at HC2 HBd hHeld ⊢
            by_cases h4 : st < 1152921504606846976
            ·by_cases h5 : cv + st < cu
             ·have HE2 := HYE.out h1 h2 h3 h4 h5
              refine p_ 0 111 ?_
              refine p_ 1 112 ?_
              refine p_ 2 113 ?_
              refine p_ 3 114 ?_
              refine p_ 4 115 ?_
              refine p_ 5 116 ?_
              refine t2_ 6 117 hHeld ?_
              refine p_ 7 118 ?_
              refine p_ 8 119 (v := .int .i64 (cv + st)) ?_ (hy := Or.inl ⟨by rfl, by intro w2; go_simp; try exact hwr⟩)
              refine p_ 9 120 ?_
              refine p_ 10 121 ?_
              refine p_ 11 122 ?_
              refine t2_ 12 123 hHeld ?_
              refine p_ 13 124 (v := .bool true) ?_ (hy := Or.inl ⟨by rfl, by intro w2; go_simp; try exact hwr⟩)
              refine p_ 14 125 ?_
              refine d_ ?_
              obtain ⟨z0, z1⟩ := hHeld
              have hfz : wd.frozen? ⟨w4.heap.size, u, none⟩ = false := fz_of_blk HC2.out
              go_wp2_with (fail)
              go_roundw
              case rel => exact ⟨u + 1, by go_num, by omega, ⟨by rw [sb_put HC2.out, colC_set, HD'.out, HE2]⟩, ⟨below_put HBd.out _ _ (Nat.le_refl _)⟩⟩
              case measure => simp [intOf]; omega
             ·have HE2 := HNO.out (fun h => h5 h.2.2.2.2)
              rw [← HE2, ← HD'.out] at HC2
              refine p_ 0 111 ?_
              refine p_ 1 112 ?_
              refine p_ 2 113 ?_
              refine p_ 3 114 ?_
              refine p_ 4 115 ?_
              refine p_ 5 116 ?_
              refine t2_ 6 117 hHeld ?_
              refine p_ 7 118 ?_
              refine p_ 8 119 (v := .int .i64 (cv + st)) ?_ (hy := Or.inl ⟨by rfl, by intro w2; go_simp; try exact hwr⟩)
              refine p_ 9 120 ?_
              refine p_ 10 121 ?_
              refine p_ 11 122 ?_
              refine t2_ 12 123 hHeld ?_
              refine p_ 13 124 (v := .bool false) ?_ (hy := Or.inl ⟨by rfl, by intro w2; go_simp; try exact hwr⟩)
              refine p_ 14 125 ?_
              refine d_ ?_
              clear hHeld
              go_wp2_with (fail)
              go_roundw
              case rel => exact ⟨u + 1, by go_num, by omega, HC2, HBd⟩
              case measure => simp [intOf]; omega
            ·have HE2 := HNO.out (fun h => h4 h.2.2.2.1)
             rw [← HE2, ← HD'.out] at HC2
             refine p_ 0 111 ?_
             refine p_ 1 112 ?_
             refine p_ 2 113 ?_
             refine p_ 3 114 (v := undef) ?_ (hy := Or.inr ⟨by rfl, by rfl⟩)
             refine p_ 4 115 (v := undef) ?_ (hy := Or.inr ⟨by rfl, by rfl⟩)
             refine p_ 5 116 (v := undef) ?_ (hy := Or.inr ⟨by rfl, by rfl⟩)
             refine p_ 6 117 (v := undef) ?_ (hy := Or.inr ⟨by rfl, by rfl⟩)
             refine p_ 7 118 (v := undef) ?_ (hy := Or.inr ⟨by rfl, by rfl⟩)
             refine p_ 8 119 (v := undef) ?_ (hy := Or.inr ⟨by rfl, by rfl⟩)
             refine p_ 9 120 (v := undef) ?_ (hy := Or.inr ⟨by rfl, by rfl⟩)
             refine p_ 10 121 (v := undef) ?_ (hy := Or.inr ⟨by rfl, by rfl⟩)
             refine p_ 11 122 (v := undef) ?_ (hy := Or.inr ⟨by rfl, by rfl⟩)
             refine p_ 12 123 (v := undef) ?_ (hy := Or.inr ⟨by rfl, by rfl⟩)
             refine p_ 13 124 (v := undef) ?_ (hy := Or.inr ⟨by rfl, by rfl⟩)
             refine p_ 14 125 ?_
             refine d_ ?_
             clear hHeld
             go_wp2_with (fail)
             go_roundw
             case rel => exact ⟨u + 1, by go_num, by omega, HC2, HBd⟩
             case measure => simp [intOf]; omega
          ·have h3' : ru < (jj : Int) := by omega
           have HE2 := HNO.out (fun h => h3 h.2.2.1)
           rw [← HE2, ← HD'.out] at HC
           clear HE2 HNO HYE z1
           go_wp2_with (fail)
           go_roundw
           case rel => exact ⟨u + 1, by go_num, by omega, HC, HBq⟩
           case measure => simp [intOf]; omega
       ·have hun2 : u = n := by omega
        rw [hun2, ← HST.out] at HC
        go_wp2_with (fail)
        go_roundw
        case rel => exact ⟨d + 1, by rw [HI1.out]; go_num, by have := HI1.out; omega, HC, HBq⟩
        case measure => simp [intOf]; omega
     ·have hdn2 : d = n - x := by have := HIX.out; omega
      have hin : jj = n := by omega
      rw [hdn2] at HC
      have HFIN := Aside0.mk (HK.out.upw (b := b) (ws := ws) HWL.out HWR.out hn hx)
      generalize upI n L (relL n arcs L ws n).1 (relL n arcs L ws n).2.1 (rkV L) b x (n - x) = C at HC HFIN
      obtain ⟨rkb', rko', hrA, hrk⟩ := cells_al (show Kd.C (Kd.int .i64) wr (some ⟨rkb, rko, none⟩) RK.length RK from Kd.C_below HRR.out HBq.out) sv (by rw [HRL.out]; exact hv)
      injection hrA with hrA
      injection hrA with hr1 hr2
      subst hr1 hr2
      rw [hrkx] at hrk
      go_wp2_with (fail)
      clear hrk
      replace HB := Aside0.mk (below_then HB.out HB.out.size HBq.out)
      replace HL := Aside0.mk (Kd.C_below HL.out HBq.out)
      obtain ⟨wB, hwB⟩ : ∃ q, q = wr := ⟨_, rfl⟩
      subst hwB
      clear HBq HTI HTB HX HBK HRR
      go_loopw [19, 20] (fun o i wr => ∃ (d : Nat) (A : Option Addr) (c : Nat), o = .slice A (outU L C x d).length c ∧ i = .int .i64 ((x + d : Nat) : Int) ∧ x + d ≤ n ∧ Aside0 (Below wB.heap.size wB wr) ∧ Aside0 (Kd.R k50 50 wr wB.heap.size (fun _ => True) (.slice A (outU L C x d).length c) ((outU L C x d).map toR))) (fun _ i _ => n - (intOf i).toNat)
      case atStart => exact ⟨0, none, 0, rfl, rfl, by omega, ⟨Below.refl _ _⟩, ⟨Kd.R_nil _ _ _ _ _⟩⟩
      case round => as_aux_lemma =>
       obtain ⟨d, A, c, rfl, rfl, hd, HBL, HO⟩ := hrel
       obtain ⟨jj, HIX⟩ : ∃ jj, Aside0 (x + d = jj) := ⟨_, ⟨rfl⟩⟩
       rw [HIX.out] at hd ⊢
       have HI1 : Aside0 (x + (d + 1) = jj + 1) := ⟨by rw [← HIX.out]; rfl⟩
       by_cases hdn : jj < n
       ·obtain ⟨lb, lo2, rfl, hlB⟩ := cells_al HL.out jj (by rw [HLL.out]; exact hdn)
        obtain ⟨hvd, hved⟩ := HK.out.vtx_lt hdn
        have HOS := Aside0.mk (show outU L C x (d + 1) = outU L C x d ++ (if C (vtx L (x + d)) < mInf then [(L.getD (x + d) 0, C (vtx L (x + d)))] else []) from rfl)
        rw [HIX.out, hved] at HOS
        have hln := outU_len L C x d
        rw [hved] at hlB
        have hzB := (blk_cell HC.out (vtx L jj)).trans (colC_get hvd)
        generalize vtx L jj = v at hvd hved hlB hzB HOS
        generalize C v = cv at hzB HOS
        have HLB := Aside0.mk hlB
        have HZB := Aside0.mk hzB
        have hlk := (HBL.out.cell (World.block_lt_of_cell? wB _ hlB)).trans hlB
        have hz := (HBL.out.cell (World.block_lt_of_cell? wB _ hzB)).trans hzB
        clear hlB hzB
        by_cases hc : cv < 1152921504606846976
        ·have HOE : Aside0 (outU L C x (d + 1) = outU L C x d ++ [((v : Int), cv)]) := ⟨by rw [HOS.out, if_pos (show cv < mInf from hc)]⟩
         go_upto_region 29 with (fail)
         obtain ⟨ol, HOL⟩ : ∃ ol, Aside0 (outU L C x d = ol) := ⟨_, ⟨rfl⟩⟩
         rw [HOL.out] at HO HOE hln ⊢
         have hml : (ol.map toR).length = ol.length := List.length_map toR
         have HML := Aside0.mk hml
         clear hml
         refine s_ (fun w' => w'.cell? ⟨lb, lo2 + jj, none⟩ = some (.int .i64 (v : Int)) ∧ w'.cell? ⟨w4.heap.size, v, none⟩ = some (.int .i64 cv)) [] ⟨hlk, hz⟩ (fun hHeld => ?_)
         have HBd := Aside0.mk (below_drew HBL.out)
         have HOd := Aside0.mk (Kd.R_drew HO.out)
         clear hlk hz HO HBL
         generalize wr.drew = wd at HBd HOd hHeld ⊢
         refine p_ 0 153 ?_
         refine p_ 1 154 ?_
         refine p_ 2 155 ?_
         refine p_ 3 156 ?_
         refine t2_ 4 157 hHeld ?_
         refine p_ 5 158 ?_
         refine p_ 6 159 ?_
         refine p_ 7 160 ?_
         refine p_ 8 161 ?_
         refine t2_ 9 162 hHeld ?_
         refine p_ 10 163 ?_
         refine t2_ 11 164 hHeld ?_
         refine p_ 12 165 ?_
         refine o_ 13 166 (fun K hK => ?_)
         refine value_ (w1 := ?_) (v := ?_) (by rfl) rfl ?_ ?_; rotate_left 2; (·go_simp; constructor; (·rfl); (·rfl))
         refine hK.out _ _ ⟨(World.cell?_alloc_lt _ _ _ (World.block_lt_of_cell? _ _ hHeld.1)).trans hHeld.1, (World.cell?_alloc_lt _ _ _ (World.block_lt_of_cell? _ _ hHeld.2)).trans hHeld.2⟩ (fun hHeld => ?_)
         clear hK K
         refine n_ 166 ?_
         refine o_ 14 167 (fun K hK => ?_)
         refine Kd.R_append_step k50 (w0 := wd) wB.heap.size (by rfl) (.tmp 153) (.tmp 166) 43 50 (.agg #[(.int .i64 0), (.int .i64 0)]) 16 rfl Try.underlying43 info50 rfl (by decide) (by decide) (.slice A ol.length c) (ol.map toR) ⟨(v : Int), cv⟩ [.int .i64 (v : Int), .int .i64 cv] (fun _ => True) (fun _ => False) rfl rfl ?aP (fun _ hk => hk.elim) ?aF ?aO ?aB ?aS ?aL ?_
         (case aP => exact k50_mkM _ _ _ _)
         (case aF => exact (fun _ _ => trivial))
         (case aO => exact HOd.out)
         (case aB => exact Below.refl _ _)
         (case aS => exact HBd.out.size)
         (case aL => rw [HML.out]; have := HIX.out; omega)
         intro v6 w6 ho6 hb6 hg6 hat6
         obtain ⟨A6, c6, he6⟩ := Kd.R_slice ho6
         have HB6 := Aside0.mk (HBd.out.trans hb6)
         rw [show (ol.map toR ++ [(⟨(v : Int), cv⟩ : S50)]).length = (outU L C x (d + 1)).length by rw [HOE.out]; simp] at he6
         subst he6
         have HO6 : Aside0 (Kd.R k50 50 w6 wB.heap.size (fun _ => True) (.slice A6 (outU L C x (d + 1)).length c6) ((outU L C x (d + 1)).map toR)) := ⟨by
          have hmm : (outU L C x (d + 1)).map toR = ol.map toR ++ [(⟨(v : Int), cv⟩ : S50)] := by rw [HOE.out, List.map_append]; rfl
          rw [hmm]
          exact ho6⟩
         clear ho6 hb6 hg6 hat6
         refine hK.out _ _ ⟨(HB6.out.cell (World.block_lt_of_cell? wB _ HLB.out)).trans HLB.out, (HB6.out.cell (World.block_lt_of_cell? wB _ HZB.out)).trans HZB.out⟩ (fun _ => ?_)
         clear hK K hHeld HOd HBd
         refine n_ 167 ?_
         refine p_ 15 19 ?_
         refine d_ ?_
         go_wp2_with (fail)
         go_roundw
         case rel => exact ⟨d + 1, A6, c6, rfl, by rw [HI1.out]; go_num, by have := HI1.out; omega, HB6, HO6⟩
         case measure => simp [intOf]; omega
        ·have HOE : Aside0 (outU L C x (d + 1) = outU L C x d) := ⟨by rw [HOS.out, if_neg (show ¬ cv < mInf from hc), List.append_nil]⟩
         go_wp2_with (fail)
         go_roundw
         case rel => exact ⟨d + 1, A, c, by rw [HOE.out], by rw [HI1.out]; go_num, by have := HI1.out; omega, HBL, ⟨by rw [HOE.out]; exact HO.out⟩⟩
         case measure => simp [intOf]; omega
       ·have hdn2 : d = n - x := by have := HIX.out; omega
        rw [hdn2] at HO ⊢
        have hin : jj = n := by omega
        go_wp2_with (fail)
        go_ret
        refine ⟨below_then HB.out HB.out.size HBL.out, .inr ⟨x, _, hx, (HK.out.vtx_lt hx).2, rfl, ?_⟩⟩
        rw [HFIN.out]
        exact Kd.R_lower HO.out HB.out.size
end Go.Proofs.Ytfnophaiamkmpaa.Print
