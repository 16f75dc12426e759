/- Several texts of this claim in one: F51, HQRev, HQPathW, HQUnpP. -/
import Derived.Test.YtfnophaiamkmpaaPrint0
import Derived.Test.YtfnophaiamkmpaaM1
import Derived.Test.YtfnophaiamkmpaaM23
import Derived.Test.YtfnophaiamkmpaaHQUnpW
namespace Go.Proofs.Ytfnophaiamkmpaa.Print
open Go.RowKit Go.Proofs.YtfnophaiamkmpaaW.PrintWords Go.Proofs.YtfnophaiamkmpaaW.PrintLast Go.Proofs.YtfnophaiamkmpaaW.PrintMore
attribute [local go_sem] max2_int min2_int max_two min_two max_three min_three max_four min_four   -- for this text's walks alone
set_option linter.unusedVariables false
set_option linter.unusedSimpArgs false
/-! ### slices_Reverse_int_int: function 51 -/
def slices_Reverse_int_int.l0 : Nat → List Int → Int → Int → Option (List Int)
 | 0, _, _, _ => none
 | k + 1, x0, x2, x3 => if x2 < x3 then (if 0 ≤ x3 then (if x3 < (x0.length : Int) then (if 0 ≤ x2 then (if x2 < (x0.length : Int) then (slices_Reverse_int_int.l0 k ((x0.set (x2 : Int).toNat (rd x0 x3)).set (x3 : Int).toNat (rd x0 x2)) (wrap64 (x2 + 1)) (wrap64 (x3 - 1))) else (none)) else (none)) else (none)) else (none)) else (some x0)
def slices_Reverse_int_int.f (k : Nat) (l0 : List Int) : Option (List Int) := slices_Reverse_int_int.l0 k l0 0 (wrap64 ((l0.length : Int) - 1))
def slices_Reverse_int_int.T3 : Bool × List (List Nat × List Nat) := (true, [([], []), ([], []), ([], []), ([], []), ([], []), ([], []), ([4, 5], [4, 5]), ([6], [6]), ([], []), ([], []), ([8, 9], [8, 9]), ([10], [10]), ([0, 1, 0, 1, 4, 5, 6, 7, 11], [0, 1]), ([12, 7, 0, 1, 4, 5, 6, 7, 11], [7, 12]), ([2, 3, 0, 1, 2, 3, 4, 5, 6, 7, 8, 9, 10, 11, 12, 13], [2, 3]), ([14, 11, 13, 0, 1, 2, 3, 4, 5, 6, 7, 8, 9, 10, 11, 12, 13], [11, 14])])
def slices_Reverse_int_int.B3 : List Nat := [0, 0, 0, 0, 0, 0, 48, 112, 0, 0, 768, 1792, 4083, 8179, 16383, 32767]
theorem slices_Reverse_int_int.tab3 : rtab .any (opsOf Try.f51 3) = slices_Reverse_int_int.T3 := by kernel_rfl
theorem slices_Reverse_int_int.bits3 : waitsOk slices_Reverse_int_int.T3.2 slices_Reverse_int_int.B3 = true := by kernel_rfl
set_option maxHeartbeats 8000000 in
set_option maxRecDepth 100000 in
theorem slices_Reverse_int_int.calls (k : Nat) (P0_ : Nat → Prop) (u9000_ : Value) (l0 : List Int) (r : List Int) (w0 w : World) (hB : Below w0.heap.size w0 w) (ho0 : Kd.R (Kd.int .i64) 3 w w0.heap.size P0_ u9000_ l0) (h : slices_Reverse_int_int.f k l0 = some r) :
  Calls Try.prog 51 #[u9000_] w fun e w' => e = .returned (.tuple #[]) ∧ Kd.R (Kd.int .i64) 3 w' w0.heap.size (fun k_ => (P0_ k_ ∨ w.heap.size ≤ k_)) u9000_ r ∧ Below w0.heap.size w0 w' ∧ Kept w w' (fun k_ => P0_ k_) := by
 have HO0 := Aside0.mk (show Kd.R (Kd.int .i64) 3 w w0.heap.size (fun k_ => (P0_ k_ ∨ w.heap.size ≤ k_)) u9000_ l0 from Kd.R_mono ho0 (fun k_ hk => (.inl hk))); have HK := Aside0.mk (Kept.refl w (fun k_ => P0_ k_)); have HW0 := Aside0.mk hB.size; have HB := Aside0.mk hB; clear hB
 have H : (slices_Reverse_int_int.l0 k l0 0 (wrap64 ((l0.length : Int) - 1))) = some r := h
 clear h
 have H' := Aside0.mk H
 clear H
 obtain ⟨Ao2, co2, eo2⟩ := Kd.R_slice HO0.out
 subst eo2
 go_enter Try.func51, Try.ntmps51
 go_wp2
 go_loopg [2, 3] k (fun kq v2 v3 w' => ∃ (x0_1 : List Int) (x2_1 : Int) (x3_1 : Int), v2 = .int .i64 x2_1 ∧ v3 = .int .i64 x3_1 ∧ Aside0 (slices_Reverse_int_int.l0 kq x0_1 x2_1 x3_1 = some r) ∧ Aside0 (kq ≤ k) ∧ Aside0 (Kd.R (Kd.int .i64) 3 w' w0.heap.size (fun k_ => (P0_ k_ ∨ w.heap.size ≤ k_)) (.slice Ao2 l0.length co2) x0_1) ∧ Aside0 (Kept w w' (fun k_ => P0_ k_)) ∧ Aside0 (Below w0.heap.size w0 w'))
 case atStart => exact ⟨(l0), (0), (wrap64 ((l0.length : Int) - 1)), byF, byF, H', ⟨Nat.le_refl _⟩, ⟨by (with_reducible repeat (first | apply Kd.R_alloc | apply Kd.R_drewN | apply Kd.R_drew)); exact HO0.out⟩, ⟨by repeat (first | (with_reducible first | exact HK.out | apply Kept.alloc | apply Kept.drewN | apply Kept.drew) | exact HK.out)⟩, ⟨byB HB.out⟩⟩
 case round =>
  clear H'
  try clear p2
  obtain ⟨x0_1, x2_1, x3_1, rfl, rfl, HA, HK1, HO_0, HK, HB⟩ := hrel
  have hl0_1 := (Kd.R_reads' HO_0.out).1
  rw [hl0_1] at HO_0
  (try simp only [hl0_1])
  cases gk with
  | zero => exact absurd HA.out (by simp [slices_Reverse_int_int.l0])
  | succ k1 =>
   have H := HA.out; clear HA
   simp only [slices_Reverse_int_int.l0] at H
   by_cases c3 : x2_1 < x3_1
   ·rw [if_pos c3] at H
    have c3b0 : decide (x2_1 < x3_1) = true := decide_eq_true c3
    (try simp only [hl0_1] at c3b0)
    clear c3
    by_cases c4 : 0 ≤ x3_1
    ·rw [if_pos c4] at H
     have c4b0 : decide (0 ≤ x3_1) = true := decide_eq_true c4
     (try simp only [hl0_1] at c4b0)
     clear c4
     by_cases c5 : x3_1 < (x0_1.length : Int)
     ·rw [if_pos c5] at H
      have c5b0 : decide (x3_1 < (x0_1.length : Int)) = true := decide_eq_true c5
      (try simp only [hl0_1] at c5b0)
      clear c5
      by_cases c6 : 0 ≤ x2_1
      ·rw [if_pos c6] at H
       have c6b0 : decide (0 ≤ x2_1) = true := decide_eq_true c6
       (try simp only [hl0_1] at c6b0)
       clear c6
       by_cases c7 : x2_1 < (x0_1.length : Int)
       ·rw [if_pos c7] at H
        have c7b0 : decide (x2_1 < (x0_1.length : Int)) = true := decide_eq_true c7
        (try simp only [hl0_1] at c7b0)
        clear c7
        obtain ⟨y237, hy237⟩ : ∃ y_ : List Int, y_ = (x0_1.set (x2_1 : Int).toNat (rd x0_1 x3_1)) := ⟨_, rfl⟩
        replace H : (slices_Reverse_int_int.l0 k1 (y237.set (x3_1 : Int).toNat (rd x0_1 x2_1)) (wrap64 (x2_1 + 1)) (wrap64 (x3_1 - 1))) = some r := by first | (rw [hy237]; with_reducible exact H) | (have H2_ := (Option.bind_some _ _).symm.trans H; rw [hy237]; with_reducible exact H2_) | (have H2_ := (Option.bind_some _ _).symm.trans H; with_reducible exact H2_) | with_reducible exact H | (rw [hy237]; exact H) | exact H
        have Ny237 := Aside0.mk hy237; clear hy237
        obtain ⟨y238, hy238⟩ : ∃ y_ : List Int, y_ = (y237.set (x3_1 : Int).toNat (rd x0_1 x2_1)) := ⟨_, rfl⟩
        replace H : (slices_Reverse_int_int.l0 k1 y238 (wrap64 (x2_1 + 1)) (wrap64 (x3_1 - 1))) = some r := by first | (rw [hy238]; with_reducible exact H) | (have H2_ := (Option.bind_some _ _).symm.trans H; rw [hy238]; with_reducible exact H2_) | (have H2_ := (Option.bind_some _ _).symm.trans H; with_reducible exact H2_) | with_reducible exact H | (rw [hy238]; exact H) | exact H
        have Ny238 := Aside0.mk hy238; clear hy238
        have H' := Aside0.mk H
        clear H
        try go_wp2
        have n0_ := Aside0.mk (Kd.R_drew HO_0.out); have n1_ := Aside0.mk (Kept.drew HK.out); have n2_ := Aside0.mk (below_drew1 HB.out); clear HO_0 HK HB; have HO_0 := n0_; have HK := n1_; have HB := n2_; clear n0_ n1_ n2_
        have p235 : 0 ≤ (x3_1 : Int) := odt
        have q235 : x3_1 < (x0_1.length : Int) := odt
        obtain ⟨ad235, e235, hx235_0⟩ := Kd.at_int (Kd.R_reads' HO_0.out).2.2 x3_1 p235 q235
        cases e235
        replace p235 := eq_true p235; replace q235 := eq_true q235
        have p236 : 0 ≤ (x2_1 : Int) := odt
        have q236 : x2_1 < (x0_1.length : Int) := odt
        obtain ⟨ad236, e236, hx236_0⟩ := Kd.at_int (Kd.R_reads' HO_0.out).2.2 x2_1 p236 q236
        obtain rfl : ad235 = ad236 := (by injection e236)
        replace p236 := eq_true p236; replace q236 := eq_true q236
        have p8 : 0 ≤ (x2_1 : Int) := odt
        have q8 : (x2_1 : Int) < ((x0_1.length : Int) : Int) := odt
        obtain ⟨go8, co8, eo8, gb8, gl8, cl8, HG8⟩ := Kd.R_form HO_0.out (by omega)
        (first | cases eo8 | (injection eo8 with ea_ en_ ec_; (first | subst ea_ | (injection ea_ with ea_; subst ea_)); subst ec_; clear en_))
        have GB8 := Aside0.mk gb8; have GG8 := Aside0.mk HG8; clear gb8 gl8 HG8; have HMgo8 := Aside0.mk (show (P0_ go8 ∨ w.heap.size ≤ go8) from (HO_0.out.1 _ rfl))
        (first | simp only [add_plain] at hx235_0 | skip)
        (first | simp only [add_plain] at hx236_0 | skip)
        obtain ⟨hx8_0, hf8_0⟩ := Kd.R_celln 0 HO_0.out (x2_1 : Int) p8 q8
        replace p8 := eq_true p8; replace q8 := eq_true q8
        have HP11 := Kd.R_putn HO_0.out (x2_1 : Int) (rd x0_1 x3_1)
        rw [← Ny237.out] at HP11
        have HQ11 := Aside0.mk HP11; clear HP11
        have p9 : 0 ≤ (x3_1 : Int) := odt
        have q9 : (x3_1 : Int) < ((x0_1.length : Int) : Int) := odt
        obtain ⟨hx9_0, hf9_0⟩ := Kd.R_celln 0 HQ11.out (x3_1 : Int) p9 q9
        replace p9 := eq_true p9; replace q9 := eq_true q9
        have HP12 := Kd.R_putn HQ11.out (x3_1 : Int) (rd x0_1 x2_1)
        rw [← Ny238.out] at HP12
        have HQ12 := Aside0.mk HP12; clear HP12
        refine start_ (n := 16) (S := fun w' => w'.cell? ⟨go8, (x3_1).toNat, none⟩ = some (.int .i64 (rd x0_1 x3_1)) ∧ w'.cell? ⟨go8, (x2_1).toNat, none⟩ = some (.int .i64 (rd x0_1 x2_1))) (ds := [13, 15]) (bits 16 0) (by kernel_rfl) rfl rfl ⟨hx235_0, hx236_0⟩ (fun hHeld => ?_); refine with_tabW slices_Reverse_int_int.tab3 slices_Reverse_int_int.bits3 (fun HT_ HW_ => ?_)
        generalize wr.drew = w10 at HO_0 HK HB GG8 HQ11 HQ12 hf8_0 hf9_0 hx235_0 hx236_0 hx8_0 hx9_0 hHeld ⊢
        refine q_ 0 14 HT_ ?_; refine q_ 1 15 HT_ ?_; refine q_ 2 16 HT_ ?_; refine q_ 3 17 HT_ ?_; refine q_ 4 18 HT_ ?_; refine q_ 5 19 HT_ ?_; refine q_ 6 20 HT_ ?_; refine q_ 8 22 HT_ ?_; refine q_ 9 23 HT_ ?_; refine q_ 10 24 HT_ ?_; refine r2_ 7 21 HT_ HW_ hHeld ?_; refine r2_ 11 25 HT_ HW_ hHeld ?_; refine q_ 12 26 HT_ ?_
        refine last_ (i := 13) (N := none) (bits 16 16383) rfl rfl (one_of HT_.out (by kernel_rfl)) (by decide) (fun K hK => ?_)
        refine skip_ (w1 := ?_) (by rfl) rfl ?_ ?_
        rotate_left; (·go_simp; rfl)
        refine hK.out _ _ ?_
        clear hK K; refine q_ 14 27 HT_ ?_
        refine last_ (i := 15) (N := none) (bits 16 65535) rfl rfl (one_of HT_.out (by kernel_rfl)) (by decide) (fun K hK => ?_)
        refine skip_ (w1 := ?_) (by rfl) rfl ?_ ?_
        rotate_left; (·go_simp; rfl)
        refine hK.out _ _ ?_
        clear hK K
        refine done_ (done_of HT_.out (by kernel_rfl)) ?_
        try go_wp2
        (try simp only [← hl0_1])
        go_roundg k1
        case measure => have := HK1.out; omega
        case rel => exact ⟨(y238), (wrap64 (x2_1 + 1)), (wrap64 (x3_1 - 1)), byF, byF, H', ⟨by have := HK1.out; omega⟩, ⟨by (try simp only [hl0_1]); (with_reducible repeat (first | apply Kd.R_alloc | apply Kd.R_drewN | apply Kd.R_drew)); exact HQ12.out⟩, ⟨by repeat (first | (with_reducible first | exact HK.out | apply Kept.alloc | apply Kept.drewN | apply Kept.drew | refine Kept.setCell ?_ HMgo8.out _ | refine Kept.setCell ?_ HMgo8.out _) | exact HK.out)⟩, ⟨byB2 HB.out GB8.out GB8.out⟩⟩
       ·rw [if_neg c7] at H
        exact absurd H (by simp)
      ·rw [if_neg c6] at H
       exact absurd H (by simp)
     ·rw [if_neg c5] at H
      exact absurd H (by simp)
    ·rw [if_neg c4] at H
     exact absurd H (by simp)
   ·rw [if_neg c3] at H
    have c3b0 : decide (x2_1 < x3_1) = false := decide_eq_false c3
    (try simp only [hl0_1] at c3b0)
    clear c3
    obtain rfl := Option.some.inj H
    go_wp2
    first | go_end0 | ((try simp only [Exit.inBlock, Exit.then]); refine bodyPost_ret (results_none rfl _ _ _) rfl ?_)
    exact ⟨byE, (by first | exact (byR HO_0.out) | (simp only [hl0_1]; exact (byR HO_0.out))), byB HB.out, by repeat (first | (with_reducible first | exact HK.out | apply Kept.alloc | apply Kept.drewN | apply Kept.drew) | exact HK.out)⟩
end Go.Proofs.Ytfnophaiamkmpaa.Print
namespace Go.Proofs.Ytfnophaiamkmpaa.Print
open Go.RowKit Go.Proofs.YtfnophaiamkmpaaW.PrintWords Go.Proofs.YtfnophaiamkmpaaW.PrintLast Go.Proofs.YtfnophaiamkmpaaW.PrintMore
set_option linter.unusedVariables false
set_option linter.unusedSimpArgs false
theorem rev_l0 (l : List Int) (hl : l.length ≤ 1000000000) : ∀ (d i : Nat) (x : List Int), l.length ≤ 2 * i + d → 2 * i ≤ l.length + 1 → x.length = l.length → (∀ p, p < l.length → x.getD p 0 = if p < i ∨ l.length ≤ p + i then l.getD (l.length - 1 - p) 0 else l.getD p 0) → ∃ k0, ∀ k, k0 ≤ k → slices_Reverse_int_int.l0 k x (i : Int) ((l.length : Int) - 1 - (i : Int)) = some l.reverse := by
 intro d
 induction d using Nat.strongRecOn with
 | ind d ih =>
  intro i x hd hi hx hp
  by_cases hlt : (i : Int) < (l.length : Int) - 1 - (i : Int)
  ·have e1 : rd x ((l.length : Int) - 1 - (i : Int)) = x.getD (l.length - 1 - i) 0 := by
    show x.getD ((l.length : Int) - 1 - (i : Int)).toNat 0 = _
    rw [show ((l.length : Int) - 1 - (i : Int)).toNat = l.length - 1 - i by omega]
   have e2 : rd x (i : Int) = x.getD i 0 := by
    show x.getD (i : Int).toNat 0 = _
    rw [Int.toNat_natCast]
   obtain ⟨k0, hk0⟩ := ih (d - 2) (by omega) (i + 1) ((x.set i (x.getD (l.length - 1 - i) 0)).set (l.length - 1 - i) (x.getD i 0)) (by omega) (by omega) (by rw [List.length_set, List.length_set, hx]) (fun p hpl => by
    rw [getD_set_int (by rw [List.length_set]; omega), getD_set_int (by omega)]
    by_cases h1 : l.length - 1 - i = p
    ·rw [if_pos h1, if_pos (by omega), hp i (by omega), if_neg (by omega)]
     congr 1
     omega
    ·rw [if_neg h1]
     by_cases h2 : i = p
     ·rw [if_pos h2, if_pos (by omega), hp (l.length - 1 - i) (by omega), if_neg (by omega)]
      congr 1
      omega
     ·rw [if_neg h2, hp p hpl]
      by_cases h3 : p < i ∨ l.length ≤ p + i
      ·rw [if_pos h3, if_pos (by omega)]
      ·rw [if_neg h3, if_neg (by omega)])
   refine ⟨k0 + 1, fun k hk => ?_⟩
   obtain ⟨k', rfl⟩ : ∃ k', k = k' + 1 := ⟨k - 1, by omega⟩
   unfold slices_Reverse_int_int.l0
   rw [if_pos hlt, if_pos (by omega), if_pos (by omega), if_pos (by omega), if_pos (by omega), e1, e2, Int.toNat_natCast, show ((l.length : Int) - 1 - (i : Int)).toNat = l.length - 1 - i by omega, show wrap64 ((i : Int) + 1) = ((i + 1 : Nat) : Int) by unfold wrap64; omega, show wrap64 ((l.length : Int) - 1 - (i : Int) - 1) = (l.length : Int) - 1 - ((i + 1 : Nat) : Int) by unfold wrap64; omega]
   exact hk0 k' (by omega)
  ·refine ⟨1, fun k hk => ?_⟩
   obtain ⟨k', rfl⟩ : ∃ k', k = k' + 1 := ⟨k - 1, by omega⟩
   unfold slices_Reverse_int_int.l0
   rw [if_neg hlt]
   congr 1
   refine List.ext_getElem (by rw [hx, List.length_reverse]) (fun p h1 h2 => ?_)
   rw [List.getElem_reverse, ← getD_at h1, hp p (by omega)]
   by_cases h3 : p < i ∨ l.length ≤ p + i
   ·rw [if_pos h3, getD_at (by omega)]
   ·rw [if_neg h3, getD_at (by omega)]
    congr 1
    omega
theorem rev_ev (l : List Int) (hl : l.length ≤ 1000000000) : ∃ k, slices_Reverse_int_int.f k l = some l.reverse := by
 obtain ⟨k0, h⟩ := rev_l0 l hl l.length 0 l (by omega) (by omega) rfl (fun p hp => by rw [if_neg (by omega)])
 refine ⟨k0, ?_⟩
 have h1 := h k0 (Nat.le_refl _)
 unfold slices_Reverse_int_int.f
 rw [show wrap64 ((l.length : Int) - 1) = (l.length : Int) - 1 - ((0 : Nat) : Int) by unfold wrap64; omega]
 exact h1
inductive UpL (n : Nat) (arcs : List S58) (L ws : List Int) (b : Bool) : Int → Int → List Int → Int → Prop
 | nil (u : Int) : UpL n arcs L ws b u u [] 0
 | cons {u v c : Int} {l : List Int} (e : Nat) (he : e < eL n arcs L) (h0 : eF n arcs L e = u) (hw : wtS n arcs L ws b e < mInf) (h : UpL n arcs L ws b (eT n arcs L e) v l c) : UpL n arcs L ws b u v ((e : Int) :: l) (wtS n arcs L ws b e + c)
theorem Hk.meet_at {n : Nat} {arcs : List S58} {L ws : List Int} (h : Hk n arcs L) {x y : Nat} (hx : x < n) (hf : (meetF n arcs L ws x y).2.2 = true) : ∃ a c, mget (climbF n arcs L ws false x).cost (meetF n arcs L ws x y).1 = some a ∧ mget (climbF n arcs L ws true y).cost (meetF n arcs L ws x y).1 = some c ∧ (meetF n arcs L ws x y).2.1 = a + c := by
 have ha := h.climbF_ok (ws := ws) (b := false) hx
 have hm := meet_fold (climbF n arcs L ws true y).cost (climbF n arcs L ws false x).l [] (0, 0, false) (.inl ⟨rfl, fun p hp => by cases hp⟩)
 rw [List.nil_append] at hm
 rcases hm with ⟨h1, _⟩ | ⟨_, ⟨p, hp, c, h2, h3, h4⟩, _⟩
 ·exact absurd (h1.symm.trans hf) (by decide)
 ·have e1 : (meetF n arcs L ws x y).1 = p.1 := h3
  have e2 : (meetF n arcs L ws x y).2.1 = p.2 + c := h4
  exact ⟨p.2, c, by rw [e1]; exact (ha.mem p.1 p.2).1 hp, by rw [e1]; exact h2, e2⟩
theorem Hk.via_step {n : Nat} {arcs : List S58} {L ws : List Int} {b : Bool} (h : Hk n arcs L) {x : Nat} (hx : x < n) {st : CSt} (ho : ClimbOk n arcs L ws b x st) {u c : Int} (hc : mget st.cost u = some c) :
  (u = L.getD x 0 ∧ c = 0 ∧ mget st.via u = some (-1)) ∨ ∃ (e y z : Nat) (c0 : Int), mget st.via u = some (e : Int) ∧ e < eL n arcs L ∧ eT n arcs L e = u ∧ mget st.cost (eF n arcs L e) = some c0 ∧ c = c0 + wtS n arcs L ws b e ∧ wtS n arcs L ws b e < mInf ∧ y < z ∧ z < n ∧ eF n arcs L e = L.getD y 0 ∧ u = L.getD z 0 := by
 rcases ho.via u c hc with ⟨h1, h2⟩ | ⟨e, c0, p1, p2, p3, p4, p5, p6⟩
 ·subst h1
  rw [ho.src] at hc
  injection hc with hc
  exact .inl ⟨rfl, hc.symm, h2⟩
 ·obtain ⟨y, z, q1, q2, q3, q4, _⟩ := h.edge_rk p2
  exact .inr ⟨e, y, z, c0, p1, p2, p3, p4, p5, p6, q1, q2, q3, p3.symm.trans q4⟩
theorem Hk.cost_at {n : Nat} {arcs : List S58} {L ws : List Int} {b : Bool} (h : Hk n arcs L) {x : Nat} (hx : x < n) {st : CSt} (ho : ClimbOk n arcs L ws b x st) {u c : Int} (hc : mget st.cost u = some c) : ∃ z, z < n ∧ u = L.getD z 0 := by
 rcases h.via_step hx ho hc with ⟨h1, _⟩ | ⟨e, y, z, c0, _, _, _, _, _, _, _, q2, _, q4⟩
 ·exact ⟨x, hx, h1⟩
 ·exact ⟨z, q2, q4⟩
theorem UpL.ends {n : Nat} {arcs : List S58} {L ws : List Int} {b : Bool} {u v c : Int} {l : List Int} (h : UpL n arcs L ws b u v l c) : ∀ x ∈ l, ∃ e : Nat, x = (e : Int) ∧ e < eL n arcs L ∧ wtS n arcs L ws b e < mInf := by
 induction h with
 | nil => intro x hx; cases hx
 | cons e he h0 hw _ ih =>
  intro x hx
  rcases List.mem_cons.1 hx with rfl | hx
  ·exact ⟨e, rfl, he, hw⟩
  ·exact ih x hx
theorem yields_lookup0 {κ ε : Type} [DecidableEq κ] {encK : κ → Value} {encE : ε → Value} {P : Program} {w : World} {b : Nat} {m : List (κ × ε)} {t kt et : TypeId} {o : Oper} {a : Act} (K : KeyKind P kt encK) (ht : P.underlying t = some (.map kt et)) (z : ε) (hz : ∀ w, (zeroValue et).run P w = .ok (encE z) w) (mo x : Operand) (h : MapIs encK encE w b m) (k : κ)
  (hop : o.op = Op.lookup t mo x false) (hm : a.eval mo = .map (some b)) (hx : a.eval x = encK k) {v : Value} (hv : encE ((mget m k).getD z) = v) : (execOp a.eval o).run P w = .ok (.value v) w := by
 have hrun := run_lookup_map K ht h z hz k false
 simp only [Bool.false_eq_true, if_false] at hrun
 rw [hv] at hrun
 unfold execOp
 simp only [hop, Sem.run_bind, Sem.run_pure, Result.andThen_ok, hm, hx, hrun]
def rkM (n : Nat) (L : List Int) (v : Int) : Nat := (rankS n (ranksTo L L.length) v).toNat
theorem Hk.rkM_at {n : Nat} {arcs : List S58} {L : List Int} (h : Hk n arcs L) {y : Nat} (hy : y < n) : rkM n L (L.getD y 0) = y := by
 unfold rkM
 rw [h.rank_of hy, Int.toNat_natCast]
structure PathC (n : Nat) (arcs : List S58) (L ws : List Int) (q p : Nat) : Prop where
 hk : Hk n arcs L
 hn : n ≤ 20
 wl : ws.length = arcs.length
 wr : ∀ i, i < ws.length → ws.getD i 0 ≤ 1073741824
 al : arcs.length ≤ 1000000
structure PathU (n : Nat) (arcs : List S58) (L ws : List Int) (x : Nat) (v a u : Int) (E : List Int) : Prop where
 out : ∃ (cu : Int) (z zv : Nat), mget (climbF n arcs L ws false x).cost u = some cu ∧ z < n ∧ u = L.getD z 0 ∧ UpL n arcs L ws false u v E.reverse (a - cu) ∧ zv < n ∧ E.length + z ≤ zv
theorem PathU.start {n : Nat} {arcs : List S58} {L ws : List Int} {x : Nat} {v a : Int} (h : Hk n arcs L) (hx : x < n) (hc : mget (climbF n arcs L ws false x).cost v = some a) : PathU n arcs L ws x v a v [] := by
 obtain ⟨z, hz, hz2⟩ := h.cost_at hx (h.climbF_ok (ws := ws) (b := false) hx) hc
 exact ⟨a, z, z, hc, hz, hz2, by rw [show a - a = 0 by omega]; exact UpL.nil v, hz, by simp⟩
theorem PathU.step {n : Nat} {arcs : List S58} {L ws : List Int} {x : Nat} {v a u : Int} {E : List Int} (h : Hk n arcs L) (hx : x < n) (hU : PathU n arcs L ws x v a u E) :
  (u = L.getD x 0 ∧ mget (climbF n arcs L ws false x).via u = some (-1) ∧ UpL n arcs L ws false u v E.reverse a) ∨ ∃ e : Nat, mget (climbF n arcs L ws false x).via u = some (e : Int) ∧ e < eL n arcs L ∧ PathU n arcs L ws x v a (eF n arcs L e) (E ++ [(e : Int)]) ∧ rkM n L (eF n arcs L e) < rkM n L u ∧ E.length ≤ 20 + n := by
 obtain ⟨cu, z, zv, h1, h2, h3, h4, h5, h6⟩ := hU.out
 rcases h.via_step hx (h.climbF_ok (ws := ws) (b := false) hx) h1 with ⟨k1, k2, k3⟩ | ⟨e, y, z', c0, k1, k2, k3, k4, k5, k6, k7, k8, k9, k10⟩
 ·subst k2
  rw [Int.sub_zero] at h4
  exact .inl ⟨k1, k3, h4⟩
 ·have ez : z' = z := ord_inj h.ord k8 h2 (by rw [← k10, ← h3])
  subst ez
  refine .inr ⟨e, k1, k2, ⟨c0, y, zv, k4, by omega, k9, ?_, h5, by rw [List.length_append]; simp; omega⟩, ?_, by omega⟩
  ·rw [List.reverse_append]
   show UpL n arcs L ws false (eF n arcs L e) v ((e : Int) :: E.reverse) (a - c0)
   rw [show a - c0 = wtS n arcs L ws false e + (a - cu) by omega]
   exact UpL.cons e k2 rfl k6 (by rw [k3]; exact h4)
  ·rw [k9, h3, h.rkM_at (show y < n by omega), h.rkM_at k8]
   exact k7
structure PathF (n : Nat) (arcs : List S58) (L ws : List Int) (s v a : Int) (ES : List Int) (j : Nat) (P : List Int) : Prop where
 out : ∃ (u c1 c2 : Int), WalkL arcs ws s u P c1 ∧ UpL n arcs L ws false u v (ES.drop j) c2 ∧ c1 + c2 = a ∧ P.length ≤ j * 1048576 ∧ j ≤ ES.length
section
variable {n : Nat} {arcs : List S58} {L ws : List Int}
theorem PathF.start {s v a : Int} {ES : List Int} (h : UpL n arcs L ws false s v ES a) : PathF n arcs L ws s v a ES 0 [] := ⟨s, 0, a, WalkL.nil s, h, by omega, by simp, by omega⟩
theorem PathF.done {s v a : Int} {ES P : List Int} (h : PathF n arcs L ws s v a ES ES.length P) : WalkL arcs ws s v P a := by
 obtain ⟨u, c1, c2, h1, h2, h3, _⟩ := h.out
 rw [List.drop_length] at h2
 cases h2
 rw [← h3, Int.add_zero]
 exact h1
theorem PathF.step {s v a : Int} {ES P : List Int} {j : Nat} (hk : Hk n arcs L) (hn : n ≤ 20) (h : PathF n arcs L ws s v a ES j P) (hj : j < ES.length) : ∃ e x' : Nat, ES.getD j 0 = (e : Int) ∧ e < eL n arcs L ∧ eF n arcs L e = L.getD x' 0 ∧ x' < n ∧ wtS n arcs L ws false e < mInf ∧ ∀ l, WalkL arcs ws (eF n arcs L e) (eT n arcs L e) l (wtS n arcs L ws false e) → l.length ≤ 2 ^ x' → PathF n arcs L ws s v a ES (j + 1) (P ++ l) := by
 obtain ⟨u, c1, c2, h1, h2, h3, h4, _⟩ := h.out
 rw [List.drop_eq_getElem_cons hj] at h2
 generalize hd : ES.drop (j + 1) = D at h2
 generalize hx : ES[j] = ej at h2
 cases h2 with
 | @cons _ _ c l e he h0 hw h5 =>
  obtain ⟨x1, x2, q1, q2, q3, q4, _⟩ := hk.edge_rk he
  refine ⟨e, x1, by rw [getD_at hj]; exact hx, he, q3, by omega, hw, fun l hl hll => ?_⟩
  have hp : 2 ^ x1 ≤ 2 ^ 20 := Nat.pow_le_pow_right (by decide) (by omega)
  rw [h0] at hl
  refine ⟨_, _, c, h1.append hl, by rw [hd]; exact h5, by omega, ?_, by omega⟩
  rw [List.length_append]
  have : (j + 1) * 1048576 = j * 1048576 + 1048576 := by omega
  omega
structure PathD (n : Nat) (arcs : List S58) (L ws : List Int) (y : Nat) (s tot u : Int) (P : List Int) : Prop where
 out : ∃ (c1 cu : Int) (z : Nat), mget (climbF n arcs L ws true y).cost u = some cu ∧ z < n ∧ u = L.getD z 0 ∧ WalkL arcs ws s u P c1 ∧ c1 + cu = tot ∧ P.length + z * 1048576 ≤ 100000000
theorem PathD.step {y : Nat} {s tot u : Int} {P : List Int} (hk : Hk n arcs L) (hn : n ≤ 20) (hy : y < n) (h : PathD n arcs L ws y s tot u P) :
  (u = L.getD y 0 ∧ mget (climbF n arcs L ws true y).via u = some (-1) ∧ WalkL arcs ws s u P tot) ∨ ∃ e x' : Nat, mget (climbF n arcs L ws true y).via u = some (e : Int) ∧ e < eL n arcs L ∧ eF n arcs L e = L.getD x' 0 ∧ x' < n ∧ wtS n arcs L ws true e < mInf ∧ rkM n L (eF n arcs L e) < rkM n L u ∧ P.length + 2 ^ x' ≤ 1000000000 ∧ ∀ l, WalkL arcs ws (eT n arcs L e) (eF n arcs L e) l (wtS n arcs L ws true e) → l.length ≤ 2 ^ x' → PathD n arcs L ws y s tot (eF n arcs L e) (P ++ l) := by
 obtain ⟨c1, cu, z, h1, h2, h3, h4, h5, h6⟩ := h.out
 rcases hk.via_step hy (hk.climbF_ok (ws := ws) (b := true) hy) h1 with ⟨k1, k2, k3⟩ | ⟨e, x1, z', c0, k1, k2, k3, k4, k5, k6, k7, k8, k9, k10⟩
 ·subst k2
  rw [Int.add_zero] at h5
  subst h5
  exact .inl ⟨k1, k3, h4⟩
 ·have ez : z' = z := ord_inj hk.ord k8 h2 (by rw [← k10, ← h3])
  subst ez
  have hp : 2 ^ x1 ≤ 2 ^ 20 := Nat.pow_le_pow_right (by decide) (by omega)
  refine .inr ⟨e, x1, k1, k2, k9, by omega, k6, ?_, by omega, fun l hl hll => ?_⟩
  ·rw [k9, h3, hk.rkM_at (show x1 < n by omega), hk.rkM_at k8]
   exact k7
  ·rw [k3] at hl
   refine ⟨_, c0, x1, k4, by omega, k9, h4.append hl, by omega, ?_⟩
   rw [List.length_append]
   omega
end
set_option maxHeartbeats 12800000 in
set_option maxRecDepth 100000 in
theorem query_Path.calls {w : World} {q p n : Nat} {arcs : List S58} {L ws : List Int} (hpc : PathC n arcs L ws q p) (hM : MetH w q p n arcs L ws) (s t : Int) :
  Calls Try.prog 19 #[.pointer (some ⟨q, 0, none⟩), .int .i64 s, .int .i64 t] w fun e w' => Below w.heap.size w w' ∧ (((hasV n s = false ∨ hasV n t = false) ∧ e = .returned (.tuple #[.slice none 0 0, .int .i64 0, .int .i64 2])) ∨
   (∃ x y : Nat, x < n ∧ y < n ∧ L.getD x 0 = s ∧ L.getD y 0 = t ∧ (((meetF n arcs L ws x y).2.2 = false ∧ e = .returned (.tuple #[.slice none 0 0, .int .i64 0, .int .i64 18])) ∨ ((meetF n arcs L ws x y).2.2 = true ∧ ∃ (v : Value) (l : List Int), e = .returned (.tuple #[v, .int .i64 (meetF n arcs L ws x y).2.1, .int .i64 0]) ∧ Kd.R (Kd.int .i64) 3 w' w.heap.size (fun _ => True) v l ∧ WalkL arcs ws s t l (meetF n arcs L ws x y).2.1)))) := by
 have HM := Aside0.mk hM
 have HC2 := Aside0.mk (hpc.hk.chk2 s t)
 have hn := hpc.hn
 have hal := hpc.al
 clear hM
 go_enter Try.func19, Try.ntmps19
 go_wp2_with (fail)
 have hb0 : Below w.heap.size w (w.alloc (Obj.cells #[.int .i64 s, .int .i64 t] 3)) := (Below.refl _ _).alloc (Nat.le_refl _) _
 have hC := C_lit (l := [s, t]) (heap_alloc_new w (Obj.cells #[.int .i64 s, .int .i64 t] 3)) rfl (by simp)
 refine (query_check.calls hpc.hk (by omega) (HM.out.below hb0) (l := [s, t]) hC (by simp)).mono ?_
 rintro e w1 ⟨rfl, rfl⟩
 have HB := Aside0.mk hb0
 clear hb0 hC
 generalize w.alloc (Obj.cells #[.int .i64 s, .int .i64 t] 3) = w1 at HB ⊢
 rcases HC2.out with ⟨h2, h3⟩ | ⟨h2, x, y, hx, hy, hxs, hyt⟩
 ·rw [h2]
  clear h2 HC2
  have H3 := Aside0.mk h3
  clear h3
  go_wp2
  go_ret3
  exact ⟨HB.out, .inl ⟨H3.out, rfl⟩⟩
 ·rw [h2]
  have HMC := query_meet.calls hpc.hk hn (HM.out.below HB.out) hpc.wl hpc.wr hx hy
  rw [hxs, hyt] at HMC
  have HMC2 := Aside0.mk HMC
  have HX : Aside0 (x < n) := ⟨hx⟩
  have HY : Aside0 (y < n) := ⟨hy⟩
  have HXS := Aside0.mk hxs
  have HYT := Aside0.mk hyt
  have HFD := Aside0.mk (fun hf => hpc.hk.meet_at (ws := ws) (x := x) (y := y) hx hf)
  have HFM : Aside0 (meetS (climbF n arcs L ws false x).l (climbF n arcs L ws true y).cost = meetF n arcs L ws x y) := ⟨rfl⟩
  rw [HFM.out] at HMC2
  obtain ⟨r, HR⟩ : ∃ r, Aside0 (meetF n arcs L ws x y = r) := ⟨_, ⟨rfl⟩⟩
  rw [HR.out] at HMC2 HFD
  clear h2 HC2 HMC hx hy hxs hyt HFM
  obtain ⟨r1, r2, r3⟩ := r
  dsimp only at HMC2 HFD
  go_wp2_with (fail)
  refine HMC2.out.mono ?_
  rintro e w2 ⟨rfl, hb2⟩
  replace HB := Aside0.mk (below_then HB.out HB.out.size hb2)
  clear hb2 HMC2
  cases r3 with
  | false =>
   clear HFD
   go_wp2_with (fail)
   go_ret3
   exact ⟨HB.out, .inr ⟨x, y, HX.out, HY.out, HXS.out, HYT.out, .inl ⟨by rw [HR.out], rfl⟩⟩⟩
  | true =>
   obtain ⟨a, c, hca, hcc, hac⟩ := HFD.out rfl
   have HCA := Aside0.mk hca
   have HCC := Aside0.mk hcc
   have HAC := Aside0.mk hac
   clear HFD hca hcc hac
   go_wp2_with (fail)
   refine (query_newUnpacker.calls hpc.hk (by omega) (HM.out.below HB.out) hal hpc.wl).mono ?_
   rintro e w3 ⟨pu, rfl, hb3, hU3⟩
   replace HB := Aside0.mk (below_then HB.out HB.out.size hb3)
   have HU := Aside0.mk hU3
   clear hb3 hU3
   have hq1 := query_climb.fin hpc.hk hn (HM.out.below HB.out) hpc.wl hpc.wr false HX.out
   rw [HXS.out] at hq1
   go_wp2_with (fail)
   refine hq1.mono ?_
   rintro e w4 ⟨lv1, mc1, mv1, rfl, hb4, hr4, hm4, hv4⟩
   obtain ⟨lA1, lc1, rfl⟩ := Kd.R_slice hr4
   replace HB := Aside0.mk (below_then HB.out HB.out.size hb4)
   replace HU := Aside0.mk (HU.out.below hb4)
   have HV1 := Aside0.mk hv4
   obtain ⟨n1, HN1⟩ : ∃ k, Aside0 (((climbF n arcs L ws false x).l.map toR).length = k) := ⟨_, ⟨rfl⟩⟩
   rw [HN1.out]
   clear hb4 hr4 hm4 hv4 hq1
   have hq2 := query_climb.fin hpc.hk hn (HM.out.below HB.out) hpc.wl hpc.wr true HY.out
   rw [HYT.out] at hq2
   go_wp2_with (fail)
   refine hq2.mono ?_
   rintro e w5 ⟨lv2, mc2, mv2, rfl, hb5, hr5, hm5, hv5⟩
   obtain ⟨lA2, lc2, rfl⟩ := Kd.R_slice hr5
   replace HB := Aside0.mk (below_then HB.out HB.out.size hb5)
   replace HU := Aside0.mk (HU.out.below hb5)
   replace HV1 := Aside0.mk (HV1.out.below hb5)
   have HV2 := Aside0.mk hv5
   obtain ⟨n2, HN2⟩ : ∃ k, Aside0 (((climbF n arcs L ws true y).l.map toR).length = k) := ⟨_, ⟨rfl⟩⟩
   rw [HN2.out]
   clear hb5 hr5 hm5 hv5 hq2
   go_wp2_with (fail)
   have hs6 : ((w5.alloc (Obj.cells #[.slice lA1 n1 lc1, .map (some mc1), .map (some mv1)] 96)).alloc (Obj.cells #[.slice lA2 n2 lc2, .map (some mc2), .map (some mv2)] 96)).heap.size = w5.heap.size + 2 := by rw [World.size_alloc, World.size_alloc]
   have hb6 : Below w5.heap.size w5 ((w5.alloc (Obj.cells #[.slice lA1 n1 lc1, .map (some mc1), .map (some mv1)] 96)).alloc (Obj.cells #[.slice lA2 n2 lc2, .map (some mc2), .map (some mv2)] 96)) := ((Below.refl _ _).alloc (Nat.le_refl _) _).alloc (by rw [World.size_alloc]; omega) _
   have HX1 := Aside0.mk (show ((w5.alloc (Obj.cells #[.slice lA1 n1 lc1, .map (some mc1), .map (some mv1)] 96)).alloc (Obj.cells #[.slice lA2 n2 lc2, .map (some mc2), .map (some mv2)] 96)).heap[w5.heap.size]? = some (.cells #[.slice lA1 n1 lc1, .map (some mc1), .map (some mv1)] 96 (0, 0)) from blk_below (heap_alloc_new w5 _) ((Below.refl _ _).alloc (Nat.le_refl _) _))
   have hx2 := heap_alloc_new (w5.alloc (Obj.cells #[.slice lA1 n1 lc1, .map (some mc1), .map (some mv1)] 96)) (Obj.cells #[.slice lA2 n2 lc2, .map (some mc2), .map (some mv2)] 96)
   rw [World.size_alloc] at hx2
   have HX2 := Aside0.mk hx2
   replace HB := Aside0.mk (below_then HB.out HB.out.size hb6)
   replace HU := Aside0.mk (HU.out.below hb6)
   replace HV1 := Aside0.mk (HV1.out.below hb6)
   replace HV2 := Aside0.mk (HV2.out.below hb6)
   clear hb6 hx2 hs6
   generalize (w5.alloc (Obj.cells #[.slice lA1 n1 lc1, .map (some mc1), .map (some mv1)] 96)).alloc (Obj.cells #[.slice lA2 n2 lc2, .map (some mc2), .map (some mv2)] 96) = w6 at HX1 HX2 HB HU HV1 HV2 ⊢
   generalize w5.heap.size = b14 at HX1 HX2 ⊢
   go_loopw [16, 17] (fun ev uv wr => ∃ (E : List Int) (A : Option Addr) (ec : Nat) (u : Int), ev = .slice A E.length ec ∧ uv = .int .i64 u ∧ Aside0 (Below w6.heap.size w6 wr) ∧ Aside0 (Kd.R (Kd.int .i64) 3 wr w6.heap.size (fun _ => True) (.slice A E.length ec) E) ∧ PathU n arcs L ws x r1 a u E) (fun _ uv _ => rkM n L (intOf uv))
   case atStart => exact ⟨[], none, 0, r1, rfl, rfl, ⟨Below.refl _ _⟩, ⟨Kd.R_nil _ _ _ _ _⟩, PathU.start hpc.hk HX.out HCA.out⟩
   case round =>
    obtain ⟨E, A, ec, u, rfl, rfl, HBL, HE, HPU⟩ := hrel
    have HX1r := Aside0.mk (blk_below HX1.out HBL.out)
    have x2 := (blk_cell HX1r.out 2).trans rfl
    have HV1r := Aside0.mk (HV1.out.below HBL.out)
    rcases HPU.step hpc.hk HX.out with ⟨k1, k2, k3⟩ | ⟨e, k1, k2, k3, k4, k5⟩
    ·have hEl : E.length ≤ 20 := by
      obtain ⟨_, z, zv, _, _, _, _, q1, q2⟩ := HPU.out
      omega
     obtain ⟨kr, hkr⟩ := rev_ev E (by omega)
     have HKR := Aside0.mk hkr
     have K2 := Aside0.mk k2
     have HSTART : PathF n arcs L ws s r1 a E.reverse 0 [] := PathF.start (by rw [← HXS.out, ← k1]; exact k3)
     have HMR : Aside0 (E.reverse.length = E.length) := ⟨List.length_reverse⟩
     clear k1 k2 k3 hkr
     go_wp2_with (refine wp_lookup_map qKey Try.underlying94 0 zeroI_ rfl _ _ false rfl HV1r.out u rfl rfl (.int .i64 (-1)) (by rw [K2.out]; rfl) ?_)
     refine (slices_Reverse_int_int.calls kr (fun _ => True) _ E E.reverse w6 wr HBL.out HE.out HKR.out).mono ?_
     rintro e w7 ⟨rfl, hr7, hb7, _⟩
     have HEC := Aside0.mk (Kd.R_reads' hr7).2.2
     have HB7 := Aside0.mk hb7
     obtain ⟨m, HML⟩ : ∃ m, Aside0 (E.length = m) := ⟨_, ⟨rfl⟩⟩
     obtain ⟨ES, HES⟩ : ∃ ES, Aside0 (E.reverse = ES) := ⟨_, ⟨rfl⟩⟩
     rw [HML.out] at HMR hEl ⊢
     rw [HES.out] at HMR HEC HSTART
     have HU7 := Aside0.mk (HU.out.below HB7.out)
     have HX27 := Aside0.mk (blk_below HX2.out HB7.out)
     have HV27 := Aside0.mk (HV2.out.below HB7.out)
     have HBW := Aside0.mk (below_then HB.out HB.out.size HB7.out)
     clear hr7 hb7 HBL HE HPU HX1r x2 HV1r HV1 HKR K2
     go_wp2_with (fail)
     go_loopw [18, 76] (fun pv iv wr => ∃ (j : Nat) (P : List Int) (A2 : Option Addr) (pc : Nat), pv = .slice A2 P.length pc ∧ iv = .int .i64 (j : Int) ∧ j ≤ m ∧ Aside0 (Below w7.heap.size w7 wr) ∧ Aside0 (Kd.R (Kd.int .i64) 3 wr w7.heap.size (fun _ => True) (.slice A2 P.length pc) P) ∧ PathF n arcs L ws s r1 a ES j P) (fun _ iv _ => m - (intOf iv).toNat)
     case atStart => exact ⟨0, [], none, 0, rfl, rfl, Nat.zero_le _, ⟨Below.refl _ _⟩, ⟨Kd.R_nil _ _ _ _ _⟩, HSTART⟩
     case round =>
      obtain ⟨j, P, A2, pc, rfl, rfl, hj, HBL2, HP, HPF⟩ := hrel
      have hPl : P.length ≤ 20971520 := by
       obtain ⟨_, _, _, _, _, _, q1, q2⟩ := HPF.out
       omega
      by_cases hjm : j < m
      ·obtain ⟨e, x', q1, q2, q3, q4, q5, q6⟩ := HPF.step hpc.hk hn (by rw [HMR.out]; exact hjm)
       have hp : 2 ^ x' ≤ 2 ^ 20 := Nat.pow_le_pow_right (by decide) (by omega)
       have hec := Kd.C_below HEC.out HBL2.out
       obtain ⟨lb, lo, hlA, hlk⟩ := cells_all hec j (by rw [HMR.out]; exact hjm)
       subst hlA
       rw [q1] at hlk
       have hun := (query_unpack.calls hpc.hk hn hpc.wl hpc.wr hal HU7.out x').ap true q4 HBL2.out q2 q3 q5 HP.out (by omega)
       have HUN := Aside0.mk hun
       have Q6 := Aside0.mk q6
       clear hec q1 q2 q3 q4 q5 q6 hp hun
       go_wp2_with (fail)
       refine HUN.out.mono ?_
       rintro ev w8 ⟨v, l, rfl, hb8, hr8, hw8, hl8⟩
       obtain ⟨A8, c8, rfl⟩ := Kd.R_slice hr8
       have HB8 := Aside0.mk hb8
       have HR8 := Aside0.mk hr8
       have HPN := Q6.out l hw8 hl8
       clear hb8 hr8 hw8 hl8 HUN Q6 hlk
       go_wp2_with (fail)
       go_roundw
       case rel => exact ⟨j + 1, P ++ l, A8, c8, by first | rfl | simp, by go_num, by omega, HB8, HR8, HPN⟩
       case measure => simp [intOf]; omega
      ·obtain rfl : j = m := by omega
       have hW : WalkL arcs ws s r1 P a := PathF.done (ES := ES) (by rw [HMR.out]; exact HPF)
       obtain ⟨zz, hz1, hz2⟩ := hpc.hk.cost_at HY.out (hpc.hk.climbF_ok (ws := ws) (b := true) HY.out) HCC.out
       have HD0 : PathD n arcs L ws y s r2 r1 P := ⟨a, c, zz, HCC.out, hz1, hz2, hW, HAC.out.symm, by omega⟩
       clear hW hz1 hz2 HPF HEC HSTART
       go_wp2_with (fail)
       go_loopw [18, 21] (fun pv uv wr => ∃ (P2 : List Int) (A3 : Option Addr) (pc3 : Nat) (u2 : Int), pv = .slice A3 P2.length pc3 ∧ uv = .int .i64 u2 ∧ Aside0 (Below w7.heap.size w7 wr) ∧ Aside0 (Kd.R (Kd.int .i64) 3 wr w7.heap.size (fun _ => True) (.slice A3 P2.length pc3) P2) ∧ PathD n arcs L ws y s r2 u2 P2) (fun _ uv _ => rkM n L (intOf uv))
       case atStart => exact ⟨P, A2, pc, r1, rfl, rfl, HBL2, HP, HD0⟩
       case round =>
        obtain ⟨P2, A3, pc3, u2, rfl, rfl, HBL3, HP3, HPD⟩ := hrel
        have x2b := (blk_cell (blk_below HX27.out HBL3.out) 2).trans rfl
        have HV2r := Aside0.mk (HV27.out.below HBL3.out)
        rcases HPD.step hpc.hk hn HY.out with ⟨k1, k2, k3⟩ | ⟨e, x', q1, q2, q3, q4, q5, q6, q7, q8⟩
        ·have K2 := Aside0.mk k2
         have HWF : Aside0 (WalkL arcs ws s t P2 r2) := ⟨by rw [← HYT.out, ← k1]; exact k3⟩
         have HBZ := Aside0.mk (below_then HBW.out HBW.out.size HBL3.out)
         clear k1 k2 k3 HPD
         go_wp2_with (refine wp_lookup_map qKey Try.underlying94 0 zeroI_ rfl _ _ false rfl HV2r.out u2 rfl rfl (.int .i64 (-1)) (by rw [K2.out]; rfl) ?_)
         go_ret3
         exact ⟨HBZ.out, .inr ⟨x, y, HX.out, HY.out, HXS.out, HYT.out, .inr ⟨by rw [HR.out], _, P2, by rw [HR.out]; rfl, Kd.R_lower HP3.out HBW.out.size, by rw [HR.out]; exact HWF.out⟩⟩⟩
        ·have K1 := Aside0.mk q1
         have he' : e < (hierS n arcs L).edges.length := q2
         have hun := (query_unpack.calls hpc.hk hn hpc.wl hpc.wr hal HU7.out x').ap false q4 HBL3.out q2 q3 q5 HP3.out q7
         have HUN := Aside0.mk hun
         have Q8 := Aside0.mk q8
         obtain ⟨eA, ece, ma, wA, wc, h1, h2, h3, h4, h5⟩ := HU7.out.out
         obtain ⟨eb, eo, heA, ex0, _⟩ := edge_cells h2 he'
         subst heA
         have HPX := Aside0.mk h1
         have HEX := Aside0.mk ex0
         obtain ⟨f0, HF0⟩ : ∃ f, Aside0 (((hierS n arcs L).edges.getD e z58).f0 = f) := ⟨_, ⟨rfl⟩⟩
         have HF1 : Aside0 (eF n arcs L e = f0) := HF0
         rw [HF0.out] at HEX
         rw [HF1.out] at q6
         clear h1 h2 h3 h4 h5 ex0 q1 q2 q3 q4 q5 q7 q8 hun
         go_wp2_with (refine wp_lookup_map qKey Try.underlying94 0 zeroI_ rfl _ _ false rfl HV2r.out u2 rfl rfl (.int .i64 (e : Int)) (by rw [K1.out]; rfl) ?_)
         refine HUN.out.mono ?_
         rintro ev w8 ⟨v, l, rfl, hb8, hr8, hw8, hl8⟩
         obtain ⟨A8, c8, rfl⟩ := Kd.R_slice hr8
         have HB9 := Aside0.mk hb8
         have HO9 := Aside0.mk hr8
         have HPN := Q8.out l hw8 hl8
         rw [HF1.out] at HPN
         clear hb8 hr8 hw8 hl8 HUN Q8 x2b HV2r
         go_upto_region 23 with (fail)
         have c1 := (blk_cell (blk_below HPX.out HB9.out) 1).trans rfl
         have y2 := (blk_cell (blk_below HX27.out HB9.out) 2).trans rfl
         refine s_ (fun w' => w'.cell? ⟨pu, 1, none⟩ = some (.slice (some ⟨eb, eo, none⟩) (hierS n arcs L).edges.length ece) ∧ w'.cell? ⟨b14 + 1, 2, none⟩ = some (.map (some mv2)) ∧ w'.cell? ⟨eb, eo + e * 2, none⟩ = some (.int .i64 f0) ∧ MapIs (Value.int .i64) (Value.int .i64) w' mv2 (climbF n arcs L ws true y).via) [] ⟨c1, y2, pw_cell_below HB9.out HEX.out, (HV27.out.below HB9.out).drew⟩ (fun hHeld => ?_)
         have hbd : Below w8.heap.size w8 w8.drew := below_drew (Below.refl _ _)
         have HBN := Aside0.mk (below_then HB9.out HB9.out.size hbd)
         have HON := Aside0.mk (Kd.R_below HO9.out hbd)
         generalize w8.drew = w10 at HBN HON hHeld ⊢
         clear hbd c1 y2 HB9 HO9
         refine p_ 0 91 ?_
         refine p_ 1 92 ?_
         refine p_ 2 93 ?_
         refine t4_ 3 94 hHeld ?_
         refine p_ 4 95 ?_
         refine t4_ 5 96 hHeld ?_
         refine p_ 6 97 ?_
         refine t4_ 7 98 hHeld ?_ (v := .int .i64 (e : Int)) (hy := Or.inl ⟨by rfl, by rintro w' ⟨s0, s1, s2, s3⟩; refine yields_lookup0 qKey Try.underlying94 0 zeroI_ (.tmp 96) (.tmp 97) s3 u2 ?_ ?_ ?_ ?_ <;> first | rfl | (rw [K1.out]; rfl)⟩)
         refine p_ 8 99 ?_
         refine p_ 9 100 ?_
         refine t4_ 10 101 hHeld ?_
         refine p_ 11 21 ?_
         refine d_ ?_
         clear hHeld
         go_wp2_with (fail)
         go_roundw
         case rel => exact ⟨P2 ++ l, A8, c8, f0, by first | rfl | simp, rfl, HBN, HON, HPN⟩
         case measure => exact q6
    ·have K1 := Aside0.mk k1
     have he' : e < (hierS n arcs L).edges.length := k2
     obtain ⟨eA, ece, ma, wA, wc, h1, h2, h3, h4, h5⟩ := HU.out.out
     obtain ⟨eb, eo, heA, ex0, _⟩ := edge_cells h2 he'
     subst heA
     have HPX := Aside0.mk h1
     have HEX := Aside0.mk ex0
     obtain ⟨f0, HF0⟩ : ∃ f, Aside0 (((hierS n arcs L).edges.getD e z58).f0 = f) := ⟨_, ⟨rfl⟩⟩
     have HF1 : Aside0 (eF n arcs L e = f0) := HF0
     rw [HF0.out] at HEX
     rw [HF1.out] at k3 k4
     clear h1 h2 h3 h4 h5 ex0 k1 k2
     go_upto_region 13 with (refine wp_lookup_map qKey Try.underlying94 0 zeroI_ rfl _ _ false rfl HV1r.out u rfl rfl (.int .i64 (e : Int)) (by rw [K1.out]; rfl) ?_)
     go_upto_region 12 with (first
      | (refine wp_lookup_map qKey Try.underlying94 0 zeroI_ rfl _ _ false rfl HV1r.out u rfl rfl (.int .i64 (e : Int)) (by rw [K1.out]; rfl) ?_)
      | (refine Kd.R_append (Kd.int .i64) (w0 := w6) w6.heap.size (by rfl) (.tmp 65) (.tmp 70) 25 3 (.int .i64 0) 8 rfl Try.underlying25 info3 rfl (by decide) (by omega) (.slice A E.length ec) E (e : Int) [.int .i64 (e : Int)] (fun _ => True) (fun _ => False) rfl rfl ?aP (fun _ hk => hk.elim) ?aF ?aO ?aB ?aS ?aL ?_
         (case aP => exact rfl)
         (case aF => exact (fun _ _ => trivial))
         (case aO => exact Kd.R_mono HE.out (fun _ _ => trivial))
         (case aB => exact HBL.out)
         (case aS => exact HBL.out.size)
         (case aL => omega)
         intro v9 w9 ho hb hg hat
         obtain ⟨A9, c9, rfl⟩ := Kd.R_slice ho
         have HO9 := Aside0.mk ho
         have HB9 := Aside0.mk hb
         clear ho hb hg hat))
     have c1 := (blk_cell (blk_below HPX.out HB9.out) 1).trans rfl
     have y2 := (blk_cell (blk_below HX1.out HB9.out) 2).trans rfl
     refine s_ (fun w' => w'.cell? ⟨pu, 1, none⟩ = some (.slice (some ⟨eb, eo, none⟩) (hierS n arcs L).edges.length ece) ∧ w'.cell? ⟨b14, 2, none⟩ = some (.map (some mv1)) ∧ w'.cell? ⟨eb, eo + e * 2, none⟩ = some (.int .i64 f0) ∧ MapIs (Value.int .i64) (Value.int .i64) w' mv1 (climbF n arcs L ws false x).via) [] ⟨c1, y2, pw_cell_below HB9.out HEX.out, (HV1.out.below HB9.out).drew⟩ (fun hHeld => ?_)
     have hbd : Below w9.heap.size w9 w9.drew := below_drew (Below.refl _ _)
     have HBN := Aside0.mk (below_then HB9.out HB9.out.size hbd)
     have HON := Aside0.mk (Kd.R_below HO9.out hbd)
     generalize w9.drew = w10 at HBN HON hHeld ⊢
     clear hbd c1 y2 x2 HB9 HO9
     refine p_ 0 54 ?_
     refine p_ 1 55 ?_
     refine p_ 2 56 ?_
     refine t4_ 3 57 hHeld ?_
     refine p_ 4 58 ?_
     refine t4_ 5 59 hHeld ?_
     refine p_ 6 60 ?_
     refine t4_ 7 61 hHeld ?_ (v := .int .i64 (e : Int)) (hy := Or.inl ⟨by rfl, by rintro w' ⟨s0, s1, s2, s3⟩; refine yields_lookup0 qKey Try.underlying94 0 zeroI_ (.tmp 59) (.tmp 60) s3 u ?_ ?_ ?_ ?_ <;> first | rfl | (rw [K1.out]; rfl)⟩)
     refine p_ 8 62 ?_
     refine p_ 9 63 ?_
     refine t4_ 10 64 hHeld ?_
     refine p_ 11 17 ?_
     refine d_ ?_
     clear hHeld
     go_wp2_with (fail)
     go_roundw
     case rel => exact ⟨E ++ [(e : Int)], A9, c9, f0, by simp, rfl, HBN, HON, k3⟩
     case measure => exact k4
set_option maxHeartbeats 6400000 in
set_option maxRecDepth 100000 in
theorem query_Path.nil {w : World} (s t : Int) : Calls Try.prog 19 #[.pointer none, .int .i64 s, .int .i64 t] w fun e w' => e = .returned (.tuple #[.slice none 0 0, .int .i64 0, .int .i64 1]) ∧ Below w.heap.size w w' := by
 go_enter Try.func19, Try.ntmps19
 go_wp2_with (fail)
 refine query_check.nil.mono ?_
 rintro e w1 ⟨rfl, rfl⟩
 go_wp2
 go_ret3
 exact ⟨rfl, (Below.refl _ _).alloc (Nat.le_refl _) _⟩
set_option maxHeartbeats 6400000 in
set_option maxRecDepth 100000 in
theorem query_Unpack.nil {w : World} (e : Int) (b : Bool) : Calls Try.prog 27 #[.pointer none, .int .i64 e, .bool b] w fun x w' => x = .returned (.tuple #[.slice none 0 0, .bool false]) ∧ Below w.heap.size w w' := by
 go_enter Try.func27, Try.ntmps27
 go_wp2
 go_ret2
 exact ⟨rfl, Below.refl _ _⟩
end Go.Proofs.Ytfnophaiamkmpaa.Print
