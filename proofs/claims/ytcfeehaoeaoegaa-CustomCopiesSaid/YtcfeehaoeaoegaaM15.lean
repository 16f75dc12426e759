/- Several texts of this claim in one: HKRead4, F19, F57. -/
import Derived.Test.YtcfeehaoeaoegaaM11
import Derived.Test.YtcfeehaoeaoegaaPrint0
import Derived.Test.YtcfeehaoeaoegaaM0
namespace Go.Proofs.Ytcfeehaoeaoegaa.Print
open Go.RowKit Go.Proofs.YtcfeehaoeaoegaaW.PrintWords Go.Proofs.YtcfeehaoeaoegaaW.PrintLast Go.Proofs.YtcfeehaoeaoegaaW.PrintMore
set_option linter.unusedVariables false
set_option linter.unusedSimpArgs false

def lowG (S : HSt) (b : Int) (x : Int) : Bool := (mget S.num (x, b)).isSome
def lowerS (S : HSt) (e : Int) : List Int := if 0 ≤ e ∧ e < (S.edges.length : Int) then (S.downs.getD (rd_T38 S.edges e).f0.toNat []).filter (lowG S (rd_T38 S.edges e).f1) else []
theorem filter_take_succ {q : Int → Bool} {l : List Int} {k : Nat} (hk : k < l.length) : (l.take (k + 1)).filter q = if q (l.getD k 0) = true then (l.take k).filter q ++ [l.getD k 0] else (l.take k).filter q := by
 have h1 : l.take (k + 1) = l.take k ++ [l.getD k 0] := by
  rw [List.take_add_one]
  simp [hk]
 rw [h1, List.filter_append]
 cases h : q (l.getD k 0) with
 | true => rw [if_pos rfl]; simp only [List.filter_cons, h, List.filter_nil, if_true]
 | false => rw [if_neg (by decide)]; simp only [List.filter_cons, h, List.filter_nil, if_neg (show ¬ (false = true) by decide), List.append_nil]
set_option maxHeartbeats 3200000 in
set_option maxRecDepth 100000 in
theorem Hier_Lower.calls {w : World} {p n : Nat} {arcs : List S38} {L R : List Int} {S : HSt} (h : HierR w p n arcs L R S) (hok : HOk n S) (hend : ∀ a ∈ S.edges, 0 ≤ a.f0 ∧ a.f0 < (n : Int)) (hs : ∀ v, (S.downs.getD v []).length ≤ 1000000000) (e : Int) :
  Calls Try.prog 20 #[.pointer (some ⟨p, 0, none⟩), .int .i64 e] w fun ev w' => ∃ v : Value, ev = .returned v ∧ Kd.R (Kd.int .i64) 3 w' w.heap.size (fun _ => True) v (lowerS S e) ∧ Below w.heap.size w w' := by
 obtain ⟨gA, gc, oA, oc, rA, rc, eA, ec, mb, uA, uc, dA, dc, h1, _, _, _, h5, h6, _, h8⟩ := h.out
 have hc4 := (blk_cell h1 4).trans rfl
 have hc5 := (blk_cell h1 5).trans rfl
 have hc7 := (blk_cell h1 7).trans rfl
 have HCE := Aside0.mk h5.1
 have HCD := Aside0.mk h8.1
 have HM := Aside0.mk h6
 have HEND := Aside0.mk hend
 have HS := Aside0.mk hs
 rw [hok.lend] at hc7 HCD
 clear h h1 hok h5 h6 h8 hend hs
 go_enter Try.func20, Try.ntmps20
 by_cases h0 : e < 0
 ·have HP : Aside0 (lowerS S e = []) := ⟨by unfold lowerS; rw [if_neg (by omega)]⟩
  go_wp2
  go_ret
  exact ⟨_, rfl, by rw [HP.out]; exact Kd.R_nil _ _ _ _ _, Below.refl _ _⟩
 ·by_cases h2 : e ≥ (S.edges.length : Int)
  ·have HP : Aside0 (lowerS S e = []) := ⟨by unfold lowerS; rw [if_neg (by omega)]⟩
   go_wp2
   go_ret
   exact ⟨_, rfl, by rw [HP.out]; exact Kd.R_nil _ _ _ _ _, Below.refl _ _⟩
  ·obtain ⟨k, rfl⟩ := Int.eq_ofNat_of_zero_le (show 0 ≤ e by omega)
   have hk : k < S.edges.length := by omega
   obtain ⟨ae, hA2, hx00, hx10⟩ := at_T38 HCE.out (k : Int) (by omega) (by omega)
   have hmem : rd_T38 S.edges (k : Int) ∈ S.edges := by
    unfold rd_T38
    rw [Int.toNat_natCast, List.getD_eq_getElem?_getD, List.getElem?_eq_getElem hk]
    exact List.getElem_mem hk
   have hin := HEND.out _ hmem
   have HP : Aside0 (lowerS S (k : Int) = (S.downs.getD (rd_T38 S.edges (k : Int)).f0.toNat []).filter (lowG S (rd_T38 S.edges (k : Int)).f1)) := ⟨by unfold lowerS; rw [if_pos (by omega)]⟩
   generalize (rd_T38 S.edges (k : Int)).f1 = f1 at hx10 HP
   generalize (rd_T38 S.edges (k : Int)).f0 = f0 at hx00 HP hin
   clear hmem
   obtain ⟨a, rfl⟩ := Int.eq_ofNat_of_zero_le hin.1
   have ha : a < n := by omega
   obtain ⟨ad, cs, hA, _, ⟨Ai, xc, hcs, hci, hri⟩, hcell⟩ := Kd.C_get HCD.out [] (a : Int) (by omega) (by omega)
   have hcr0 := hcell 0 _ (by rw [hcs]; rfl)
   have hz : (Kd.slice 3 (Kd.int .i64)).sz = 1 := rfl
   rw [hz, Nat.mul_one, Nat.add_zero] at hcr0
   simp only [Int.toNat_natCast] at hcr0 hri hci hx00 hx10 HP
   subst hA hA2
   obtain ⟨x, HX⟩ : ∃ x, Aside0 (S.downs.getD a [] = x) := ⟨_, ⟨rfl⟩⟩
   rw [HX.out] at hcr0 hri hci HP
   have hxl : x.length ≤ 1000000000 := by rw [← HX.out]; exact HS.out a
   clear hcs hcell hz hin
   have HRI := Aside0.mk hri
   clear hri h0 h2
   have hC40 := Aside0.mk hc4
   have hC50 := Aside0.mk hc5
   have hC70 := Aside0.mk hc7
   have hX00 := Aside0.mk hx00
   have hX10 := Aside0.mk hx10
   have hCR0 := Aside0.mk hcr0
   have hx1 := hx10
   have hx0 := hx00
   have hcr := hcr0
   have hkz : decide ((k : Int) < 0) = false := by simp
   have hkz2 : decide ((k : Int) ≥ (S.edges.length : Int)) = false := by simp; omega
   go_upto_region 4 with (fail)
   clear hc5 hx1
   have hkd : decide (S.edges.length ≤ k) = false := by simp; omega
   simp only [hkd]
   clear hkd
   refine s_ (fun w' => w'.cell? ⟨p, 4, none⟩ = some (.slice (some ae) S.edges.length ec) ∧ w'.cell? ⟨p, 7, none⟩ = some (.slice (some ad) n dc) ∧ w'.cell? (ae.add (k * 2)) = some (.int .i64 (a : Int)) ∧ w'.cell? (ad.add a) = some (.slice Ai x.length xc)) [] ⟨hc4, hc7, hx0, hcr⟩ (fun hHeld => ?_)
   refine p_ 0 25 ?_
   refine p_ 1 26 ?_
   refine p_ 2 27 ?_
   refine t4_ 3 28 hHeld ?_
   refine p_ 4 29 ?_
   refine p_ 5 30 ?_
   refine p_ 6 31 ?_
   refine t4_ 7 32 hHeld ?_
   refine p_ 8 33 ?_
   refine p_ 9 34 ?_
   refine p_ 10 35 ?_
   refine t4_ 11 36 hHeld ?_
   refine p_ 12 37 ?_
   refine t4_ 13 38 hHeld ?_
   refine p_ 14 39 ?_
   refine p_ 15 40 ?_
   refine d_ ?_
   clear hHeld hc4 hc7 hx0 hcr hx00 hx10 hcr0
   have HB0 := Aside0.mk (below_drew (Below.refl w.heap.size w))
   generalize w.drew = wd at HB0 ⊢
   go_wp2
   go_loopw [5, 40] (fun o i wr => ∃ j : Nat, i = .int .i64 j ∧ j ≤ x.length ∧ Aside0 (Below w.heap.size w wr) ∧ Aside0 (Kd.R (Kd.int .i64) 3 wr w.heap.size (fun _ => True) o ((x.take j).filter (lowG S f1)))) (fun _ i _ => x.length - (intOf i).toNat)
   case atStart => exact ⟨0, rfl, Nat.zero_le _, HB0, ⟨by rw [List.take_zero]; exact Kd.R_nil _ _ _ _ _⟩⟩
   case round =>
    clear HB0
    obtain ⟨j, rfl, hj, HB, HO⟩ := hrel
    by_cases hlt : j < x.length
    ·rcases cells_of_C (Kd.C_below HRI.out HB.out) with ⟨h0, _⟩ | ⟨_, br, orr, rfl, hce⟩
     ·omega
     have hcx := hce j hlt
     have HF := filter_take_succ (q := lowG S f1) hlt
     have HFA := Aside0.mk HF
     clear hce HF
     have HV : ∃ v, Aside0 (x.getD j 0 = v) := ⟨_, ⟨rfl⟩⟩
     obtain ⟨v, HV⟩ := HV
     rw [HV.out] at hcx HFA
     have hc4 := pw_cell_below HB.out hC40.out
     have hc5 := pw_cell_below HB.out hC50.out
     have hx1 := pw_cell_below HB.out hX10.out
     have hmm := HM.out.below HB.out
     obtain ⟨A5, c5, rfl⟩ := Kd.R_slice HO.out
     cases hlk : lowG S f1 v with
     | true =>
      have hlk2 : (mget S.num (v, f1)).isSome = true := hlk
      rw [hlk, if_pos rfl] at HFA
      go_upto_region 7 with (fail)
      refine s_ (fun w' => w'.cell? ⟨p, 4, none⟩ = some (.slice (some ae) S.edges.length ec) ∧ w'.cell? ⟨p, 5, none⟩ = some (.map (some mb)) ∧ w'.cell? ⟨(ae.add (k * 2)).block, (ae.add (k * 2)).off + 1, none⟩ = some (.int .i64 f1) ∧ MapIs encP (Value.int .i64) w' mb S.num) [] ⟨hc4, hc5, hx1, hmm⟩ (fun hHeld => ?_)
      refine p_ 0 45 ?_
      refine p_ 1 46 ?_
      refine p_ 2 47 ?_
      refine t4_ 3 48 hHeld ?_
      refine p_ 4 49 ?_
      refine p_ 5 50 ?_
      refine p_ 6 51 ?_
      refine p_ 7 52 ?_
      refine t4_ 8 53 hHeld ?_
      refine p_ 9 54 ?_
      refine p_ 10 55 ?_
      refine p_ 11 56 ?_
      refine t4_ 12 57 hHeld ?_
      refine p_ 13 58 ?_
      refine take_ (i := 14) (N := some 59) (v := ?_) (a' := ?_) (bits 20 32767) rfl rfl (by kernel_rfl) (fun _ _ _ h => h) (Or.inl ⟨by rfl, ?_⟩) hHeld ?_ ?_; rotate_left; (·rintro w' ⟨s0, s1, s2, s3⟩; refine yields_lookup pKey Try.underlying86 0 zeroI_ (.tmp 48) (.tmp 58) s3 (v, f1) ?_ ?_ ?_ ?_ <;> rfl); rotate_left; (·simp only [putW]; rfl)
      refine p_ 15 44 ?_
      refine p_ 16 60 ?_
      refine p_ 17 61 ?_
      refine p_ 18 8 ?_
      refine p_ 19 9 ?_
      refine d_ ?_
      clear hHeld
      have HB2 := Aside0.mk (below_drew HB.out)
      have HO2 := Aside0.mk (Kd.R_drew HO.out)
      generalize wr.drew = wd2 at HB2 HO2 ⊢
      clear hc4 hc5 hx1 hmm hcx HB HO
      rw [hlk2]
      have hol : ((x.take j).filter (lowG S f1)).length ≤ 1000000000 := by
       have := List.length_filter_le (lowG S f1) (x.take j)
       have := List.length_take_le j x
       omega
      generalize (x.take j).filter (lowG S f1) = O at HFA HO2 hol ⊢
      go_wp2_with (
       refine Kd.R_append (Kd.int .i64) (w0 := w) w.heap.size (by rfl) (.tmp 63) (.tmp 65) 25 3 (.int .i64 0) 8 rfl Try.underlying25 info3 rfl (by decide) (by omega) (.slice A5 O.length c5) O v [.int .i64 v] (fun _ => True) (fun _ => False) rfl rfl ?aP (fun _ hk => hk.elim) ?aF ?aO ?aB ?aS ?aL ?_
       (case aP => exact rfl)
       (case aF => exact (fun _ _ => trivial))
       (case aO => exact Kd.R_mono HO2.out (fun _ _ => trivial))
       (case aB => exact HB2.out)
       (case aS => exact HB2.out.size)
       (case aL => omega)
       intro v9 w9 ho hb hg hat
       have HO9 := Aside0.mk ho
       have HB9 := Aside0.mk hb
       clear ho hb hg hat)
      go_roundw
      case rel => exact ⟨j + 1, by go_num, by omega, HB9, by rw [HFA.out]; exact HO9⟩
      case measure => simp [intOf]; omega
     | false =>
      have hlk2 : (mget S.num (v, f1)).isSome = false := hlk
      rw [hlk, if_neg (by decide)] at HFA
      go_upto_region 7 with (fail)
      refine s_ (fun w' => w'.cell? ⟨p, 4, none⟩ = some (.slice (some ae) S.edges.length ec) ∧ w'.cell? ⟨p, 5, none⟩ = some (.map (some mb)) ∧ w'.cell? ⟨(ae.add (k * 2)).block, (ae.add (k * 2)).off + 1, none⟩ = some (.int .i64 f1) ∧ MapIs encP (Value.int .i64) w' mb S.num) [] ⟨hc4, hc5, hx1, hmm⟩ (fun hHeld => ?_)
      refine p_ 0 45 ?_
      refine p_ 1 46 ?_
      refine p_ 2 47 ?_
      refine t4_ 3 48 hHeld ?_
      refine p_ 4 49 ?_
      refine p_ 5 50 ?_
      refine p_ 6 51 ?_
      refine p_ 7 52 ?_
      refine t4_ 8 53 hHeld ?_
      refine p_ 9 54 ?_
      refine p_ 10 55 ?_
      refine p_ 11 56 ?_
      refine t4_ 12 57 hHeld ?_
      refine p_ 13 58 ?_
      refine take_ (i := 14) (N := some 59) (v := ?_) (a' := ?_) (bits 20 32767) rfl rfl (by kernel_rfl) (fun _ _ _ h => h) (Or.inl ⟨by rfl, ?_⟩) hHeld ?_ ?_; rotate_left; (·rintro w' ⟨s0, s1, s2, s3⟩; refine yields_lookup pKey Try.underlying86 0 zeroI_ (.tmp 48) (.tmp 58) s3 (v, f1) ?_ ?_ ?_ ?_ <;> rfl); rotate_left; (·simp only [putW]; rfl)
      refine p_ 15 44 ?_
      refine p_ 16 60 ?_
      refine p_ 17 61 ?_
      refine p_ 18 8 ?_
      refine p_ 19 9 ?_
      refine d_ ?_
      clear hHeld
      have HB2 := Aside0.mk (below_drew HB.out)
      have HO2 := Aside0.mk (Kd.R_drew HO.out)
      generalize wr.drew = wd2 at HB2 HO2 ⊢
      clear hc4 hc5 hx1 hmm hcx HB HO
      rw [hlk2]
      go_wp2
      go_roundw
      case rel => exact ⟨j + 1, by go_num, by omega, HB2, by rw [HFA.out]; exact HO2⟩
      case measure => simp [intOf]; omega
    ·have hje : j = x.length := by omega
     subst hje
     rw [List.take_length] at HO
     go_wp2
     go_ret
     exact ⟨_, rfl, by rw [HP.out]; exact HO.out, HB.out⟩
end Go.Proofs.Ytcfeehaoeaoegaa.Print
namespace Go.Proofs.Ytcfeehaoeaoegaa.Print
open Go.RowKit Go.Proofs.YtcfeehaoeaoegaaW.PrintWords Go.Proofs.YtcfeehaoeaoegaaW.PrintLast Go.Proofs.YtcfeehaoeaoegaaW.PrintMore
attribute [local go_sem] max2_int min2_int max_two min_two max_three min_three max_four min_four   -- for this text's walks alone
set_option linter.unusedVariables false
set_option linter.unusedSimpArgs false

/-! ### mapmakerref05_Has: function 19 -/
def mapmakerref05_Has.l0 : Nat → List Int → Int → Int → Option (Bool)
 | 0, _, _, _ => none
 | k + 1, x0, x1, x5 => if x5 < (x0.length : Int) then (if 0 ≤ x5 then (if (rd x0 x5) = x1 then (some true) else (mapmakerref05_Has.l0 k x0 x1 (wrap64 (x5 + 1)))) else (none)) else (some false)
def mapmakerref05_Has.f (k : Nat) (l0 : List Int) (a1 : Int) : Option (Bool) := mapmakerref05_Has.l0 k l0 a1 0
set_option maxHeartbeats 8000000 in
set_option maxRecDepth 100000 in
theorem mapmakerref05_Has.calls (k : Nat) (A0 : Option Addr) (c0 : Nat) (l0 : List Int) (a1 : Int) (r : Bool) (w : World) (hr0 : Kd.C (Kd.int .i64) w A0 l0.length l0) (hc0 : l0.length ≤ c0) (h : mapmakerref05_Has.f k l0 a1 = some r) :
  Calls Try.prog 19 #[.slice A0 l0.length c0, .int .i64 a1] w fun e w' => e = .returned (.bool r) ∧ Drawn0 w w' := by
 have HR0 := Aside0.mk hr0; have HC0 := Aside0.mk hc0; clear hr0 hc0
 have H : (mapmakerref05_Has.l0 k l0 a1 0) = some r := h
 clear h
 have H' := Aside0.mk H
 clear H
 go_enter Try.func19, Try.ntmps19
 go_wp2
 go_loopg [5] k (fun kq v5 w' => ∃ (x5_1 : Int), v5 = .int .i64 x5_1 ∧ Aside0 (mapmakerref05_Has.l0 kq l0 a1 x5_1 = some r) ∧ Aside0 (kq ≤ k) ∧ Drawn0 w w')
 case atStart => exact ⟨(0), (by first | rfl | (simp; done) | (simp [*]; done)), H', ⟨Nat.le_refl _⟩, by repeat (first | exact Drawn0.refl _ | apply Drawn0.step)⟩
 case round =>
  clear H'
  try clear c1
  try clear p2
  obtain ⟨x5_1, rfl, HA, HK1, ⟨m1, rfl⟩⟩ := hrel
  cases gk with
  | zero => exact absurd HA.out (by simp [mapmakerref05_Has.l0])
  | succ k1 =>
   have H := HA.out; clear HA
   simp only [mapmakerref05_Has.l0] at H
   by_cases c3 : x5_1 < (l0.length : Int)
   ·rw [if_pos c3] at H
    have c3b0 : decide (x5_1 < (l0.length : Int)) = true := decide_eq_true c3
    clear c3
    by_cases c4 : 0 ≤ x5_1
    ·rw [if_pos c4] at H
     have c4b0 : decide (0 ≤ x5_1) = true := decide_eq_true c4
     clear c4
     by_cases c5 : (rd l0 x5_1) = a1
     ·rw [if_pos c5] at H
      have c5b0 : ((rd l0 x5_1) == a1) = true := beq_iff_eq.mpr c5
      have c5b1 : ((rd l0 x5_1) != a1) = false := bne_eq_false_iff_eq.mpr c5
      clear c5
      obtain rfl := Option.some.inj H
      have p105 : 0 ≤ (x5_1 : Int) := of_decide_eq_true (by first | (with_reducible assumption) | assumption)
      have q105 : x5_1 < (l0.length : Int) := of_decide_eq_true (by first | (with_reducible assumption) | assumption)
      obtain ⟨ad105, e105, hx105_0⟩ := Kd.at_int HR0.out x5_1 p105 q105
      cases e105
      replace p105 := eq_true p105; replace q105 := eq_true q105
      go_wp2
      go_ret
      exact ⟨by first | rfl | (simp; done) | (simp [*]; done), by repeat (first | exact Drawn0.refl _ | apply Drawn0.step)⟩
     ·rw [if_neg c5] at H
      have c5b0 : ((rd l0 x5_1) == a1) = false := beq_eq_false_iff_ne.mpr c5
      have c5b1 : ((rd l0 x5_1) != a1) = true := bne_iff_ne.mpr c5
      have H' := Aside0.mk H
      clear H
      have p105 : 0 ≤ (x5_1 : Int) := of_decide_eq_true (by first | (with_reducible assumption) | assumption)
      have q105 : x5_1 < (l0.length : Int) := of_decide_eq_true (by first | (with_reducible assumption) | assumption)
      obtain ⟨ad105, e105, hx105_0⟩ := Kd.at_int HR0.out x5_1 p105 q105
      cases e105
      replace p105 := eq_true p105; replace q105 := eq_true q105
      go_wp2
      go_roundg k1
      case measure => have := HK1.out; omega
      case rel => exact ⟨(wrap64 (x5_1 + 1)), (by first | rfl | (simp; done) | (simp [*]; done)), H', ⟨by have := HK1.out; omega⟩, by repeat (first | exact Drawn0.refl _ | apply Drawn0.step)⟩
    ·rw [if_neg c4] at H
     exact absurd H (by simp)
   ·rw [if_neg c3] at H
    have c3b0 : decide (x5_1 < (l0.length : Int)) = false := decide_eq_false c3
    clear c3
    obtain rfl := Option.some.inj H
    go_wp2
    go_ret
    exact ⟨by first | rfl | (simp; done) | (simp [*]; done), by repeat (first | exact Drawn0.refl _ | apply Drawn0.step)⟩

end Go.Proofs.Ytcfeehaoeaoegaa.Print
namespace Go.Proofs.Ytcfeehaoeaoegaa.Print
open Go.RowKit Go.Proofs.YtcfeehaoeaoegaaW.PrintWords Go.Proofs.YtcfeehaoeaoegaaW.PrintLast Go.Proofs.YtcfeehaoeaoegaaW.PrintMore
attribute [local go_sem] max2_int min2_int max_two min_two max_three min_three max_four min_four   -- for this text's walks alone
set_option linter.unusedVariables false
set_option linter.unusedSimpArgs false

/-! ### mapmakerref05_With: function 57 -/
mutual
def mapmakerref05_With.j1 : Nat → List Int → Int → List Int → Int → Option (List Int)
 | 0, _, _, _, _ => none
 | k + 1, x0, x1, x5, x6 => if x5.length < 17592186044416 then (mapmakerref05_With.l1 k x0 (x5 ++ [x1]) x6) else (none)
def mapmakerref05_With.l1 : Nat → List Int → List Int → Int → Option (List Int)
 | 0, _, _, _ => none
 | k + 1, x0, x5, x6 => if x6 < (x0.length : Int) then (if 0 ≤ x6 then (if x5.length < 17592186044416 then (mapmakerref05_With.l1 k x0 (x5 ++ [rd x0 x6]) (wrap64 (x6 + 1))) else (none)) else (none)) else (some x5)
def mapmakerref05_With.l0 : Nat → List Int → Int → List Int → Int → Option (List Int)
 | 0, _, _, _, _ => none
 | k + 1, x0, x1, x5, x6 => if x6 < (x0.length : Int) then (if 0 ≤ x6 then (if (rd x0 x6) < x1 then (if x5.length < 17592186044416 then (mapmakerref05_With.l0 k x0 x1 (x5 ++ [rd x0 x6]) (wrap64 (x6 + 1))) else (none)) else (mapmakerref05_With.j1 k x0 x1 x5 x6)) else (none)) else (mapmakerref05_With.j1 k x0 x1 x5 x6)
end
def mapmakerref05_With.f (k : Nat) (l0 : List Int) (a1 : Int) : Option (List Int) := (mapmakerref05_Has.f k l0 a1).bind fun t106 => (if t106 = true then (some l0) else (mapmakerref05_With.l0 k l0 a1 ([] : List Int) 0))
set_option maxHeartbeats 8000000 in
set_option maxRecDepth 100000 in
theorem mapmakerref05_With.calls (k : Nat) (P0_ : Nat → Prop) (u9000_ : Value) (l0 : List Int) (a1 : Int) (r : List Int) (w0 w : World) (hB : Below w0.heap.size w0 w) (ho0 : Kd.R (Kd.int .i64) 3 w w0.heap.size P0_ u9000_ l0) (h : mapmakerref05_With.f k l0 a1 = some r) :
  Calls Try.prog 57 #[u9000_, .int .i64 a1] w fun e w' => ∃ v0_ : Value, e = .returned (v0_) ∧ Kd.R (Kd.int .i64) 3 w' w0.heap.size (fun k_ => (P0_ k_ ∨ w.heap.size ≤ k_)) v0_ r ∧ Below w0.heap.size w0 w' ∧ Kept w w' (fun k_ => P0_ k_) := by
 have HO0 := Aside0.mk (show Kd.R (Kd.int .i64) 3 w w0.heap.size (fun k_ => (P0_ k_ ∨ w.heap.size ≤ k_)) u9000_ l0 from Kd.R_mono ho0 (fun k_ hk => (.inl hk))); have HK := Aside0.mk (Kept.refl w (fun k_ => P0_ k_)); have HW0 := Aside0.mk hB.size; have HB := Aside0.mk hB; clear hB
 have H : ((mapmakerref05_Has.f k l0 a1).bind fun t106 => (if t106 = true then (some l0) else (mapmakerref05_With.l0 k l0 a1 ([] : List Int) 0))) = some r := h
 clear h
 replace H := Option.bind_eq_some_iff.mp H
 obtain ⟨t106, A30, H⟩ := H
 replace H : (if t106 = true then (some l0) else (mapmakerref05_With.l0 k l0 a1 ([] : List Int) 0)) = some r := H
 have A3 := Aside0.mk A30; clear A30
 by_cases c4 : t106 = true
 ·subst c4
  have H1 : (some l0) = some r := by rw [if_pos rfl] at H; exact H
  clear H; have H := H1; clear H1
  obtain rfl := Option.some.inj H
  obtain ⟨Ao5, co5, eo5⟩ := Kd.R_slice HO0.out
  subst eo5
  go_enter Try.func57, Try.ntmps57
  go_wp2_with (first | ((with_reducible refine gate_callee (f := 19) rfl ?_); refine goesL_ (some 9) rfl rfl Try.func19 (by kernel_rfl) rfl #[.slice Ao5 l0.length co5, .int .i64 a1] rfl byL ?_; (with_reducible refine (mapmakerref05_Has.calls k _ _ l0 a1 true _ ?side1 ?side2 A3.out).mono ?_); (case side1 => repeat (first | exact (Kd.R_reads' HO0.out).2.2 | (with_reducible refine Kd.C_alloc ?_ _) | (with_reducible refine Kd.C_drewN ?_ _) | (with_reducible refine Kd.C_drew ?_))); (case side2 => exact (Kd.R_reads' HO0.out).2.1); rintro e w' ⟨rfl, ⟨nd, rfl⟩⟩; refine ⟨_, rfl, ?_⟩))
  go_ret
  exact ⟨_, by first | rfl | (simp [errW_none, errW_some] <;> rfl) | (simp [*, errW_none, errW_some] <;> rfl), by (with_reducible repeat (first | apply Kd.R_alloc | apply Kd.R_drewN | apply Kd.R_drew)); exact HO0.out, by repeat (first | (with_reducible first | exact HB.out | apply below_alloc | apply pw_below_drewN | apply below_drew1) | exact HB.out), by repeat (first | (with_reducible first | exact HK.out | apply Kept.alloc | apply Kept.drewN | apply Kept.drew) | exact HK.out)⟩
 ·replace c4 := Bool.eq_false_iff.mpr c4
  subst c4
  have H1 : (mapmakerref05_With.l0 k l0 a1 ([] : List Int) 0) = some r := by rw [if_neg (show ¬ (false = true) by decide)] at H; exact H
  clear H; have H := H1; clear H1; have HC6 := Aside0.mk H; clear H
  obtain ⟨Ao7, co7, eo7⟩ := Kd.R_slice HO0.out
  subst eo7
  go_enter Try.func57, Try.ntmps57
  go_upto_block 0 with (first | ((with_reducible refine gate_callee (f := 19) rfl ?_); refine goesL_ (some 9) rfl rfl Try.func19 (by kernel_rfl) rfl #[.slice Ao7 l0.length co7, .int .i64 a1] rfl byL ?_; (with_reducible refine (mapmakerref05_Has.calls k _ _ l0 a1 false _ ?side1 ?side2 A3.out).mono ?_); (case side1 => repeat (first | exact (Kd.R_reads' HO0.out).2.2 | (with_reducible refine Kd.C_alloc ?_ _) | (with_reducible refine Kd.C_drewN ?_ _) | (with_reducible refine Kd.C_drew ?_))); (case side2 => exact (Kd.R_reads' HO0.out).2.1); rintro e w' ⟨rfl, ⟨nd, rfl⟩⟩; refine ⟨_, rfl, ?_⟩))
  (try simp only [Act.put, List.setIfInBounds_toArray, List.set_cons_zero, List.set_cons_succ])
  go_cut [5, 6] (fun v5 v6 wc => ∃ (kq : Nat) (x5_5 : List Int) (x6_5 : Int), v6 = .int .i64 x6_5 ∧ Aside0 (mapmakerref05_With.j1 kq l0 a1 x5_5 x6_5 = some r) ∧ Aside0 (kq ≤ k) ∧ Aside0 (Kd.R (Kd.int .i64) 3 wc w0.heap.size (fun k_ => (P0_ k_ ∨ w.heap.size ≤ k_) ∧ some k_ ≠ (v5 : Value).ownBlock) (.slice Ao7 l0.length co7) l0) ∧ Aside0 (Kd.R (Kd.int .i64) 3 wc w0.heap.size (fun k_ => (P0_ k_ ∨ w.heap.size ≤ k_) ∧ some k_ ≠ ((.slice Ao7 l0.length co7) : Value).ownBlock) v5 x5_5) ∧ Aside0 (Kept w wc (fun k_ => P0_ k_)) ∧ Aside0 (Below w0.heap.size w0 wc))
  case first =>
   have H := HC6.out; clear HC6
   have H' := Aside0.mk H
   clear H
   go_wp2
   go_loopg [5, 6] k (fun kq v5 v6 w' => ∃ (x5_1 : List Int) (x6_1 : Int), v6 = .int .i64 x6_1 ∧ Aside0 (mapmakerref05_With.l0 kq l0 a1 x5_1 x6_1 = some r) ∧ Aside0 (kq ≤ k) ∧ Aside0 (Kd.R (Kd.int .i64) 3 w' w0.heap.size (fun k_ => (P0_ k_ ∨ w.heap.size ≤ k_) ∧ some k_ ≠ (v5 : Value).ownBlock) (.slice Ao7 l0.length co7) l0) ∧ Aside0 (Kd.R (Kd.int .i64) 3 w' w0.heap.size (fun k_ => (P0_ k_ ∨ w.heap.size ≤ k_) ∧ some k_ ≠ ((.slice Ao7 l0.length co7) : Value).ownBlock) v5 x5_1) ∧ Aside0 (Kept w w' (fun k_ => P0_ k_)) ∧ Aside0 (Below w0.heap.size w0 w'))
   case atStart => exact ⟨(([] : List Int)), (0), (by first | rfl | (simp; done) | (simp [*]; done)), H', ⟨Nat.le_refl _⟩, ⟨by (with_reducible repeat (first | apply Kd.R_alloc | apply Kd.R_drewN | apply Kd.R_drew)); exact Kd.R_mono HO0.out (fun _ hk => ⟨hk, (by simp [Value.ownBlock])⟩)⟩, ⟨by first | exact Kd.R_nil _ _ _ _ _ | exact Kd.N_nil _ _ _ _ _ | exact Kd.V_nil _ _ _ _ _ | exact Kd.Q_nil _ _ _ _ _ | exact Kd.S_nil _ _ _ _ _⟩, ⟨by repeat (first | (with_reducible first | exact HK.out | apply Kept.alloc | apply Kept.drewN | apply Kept.drew) | exact HK.out)⟩, ⟨by repeat (first | (with_reducible first | exact HB.out | apply below_alloc | apply pw_below_drewN | apply below_drew1) | exact HB.out)⟩⟩
   case round =>
    clear H'
    try clear c1
    try clear p2
    try clear c4
    try clear c5
    obtain ⟨x5_1, x6_1, rfl, HA, HK1, HO_0, HO_5, HK, HB⟩ := hrel
    cases gk with
    | zero => exact absurd HA.out (by simp [mapmakerref05_With.l0])
    | succ k1 =>
     have H := HA.out; clear HA
     simp only [mapmakerref05_With.l0] at H
     by_cases c8 : x6_1 < (l0.length : Int)
     ·rw [if_pos c8] at H
      have c8b0 : decide (x6_1 < (l0.length : Int)) = true := decide_eq_true c8
      clear c8
      (first | rw [c8b0] | (simp only [i64_w, i32_w]; rw [c8b0]) | skip)
      by_cases c9 : 0 ≤ x6_1
      ·rw [if_pos c9] at H
       have c9b0 : decide (0 ≤ x6_1) = true := decide_eq_true c9
       clear c9
       by_cases c10 : (rd l0 x6_1) < a1
       ·rw [if_pos c10] at H
        have c10b0 : decide ((rd l0 x6_1) < a1) = true := decide_eq_true c10
        clear c10
        by_cases c11 : x5_1.length < 17592186044416
        ·rw [if_pos c11] at H
         have LMc11 := Aside0.mk c11; clear c11
         obtain ⟨y109, hy109⟩ : ∃ y_ : List Int, y_ = (x5_1 ++ [rd l0 x6_1]) := ⟨_, rfl⟩
         replace H : (mapmakerref05_With.l0 k1 l0 a1 y109 (wrap64 (x6_1 + 1))) = some r := by first | (rw [hy109]; with_reducible exact H) | (have H2_ := (Option.bind_some _ _).symm.trans H; rw [hy109]; with_reducible exact H2_) | (have H2_ := (Option.bind_some _ _).symm.trans H; with_reducible exact H2_) | with_reducible exact H | (rw [hy109]; exact H) | exact H
         have Ny109 := Aside0.mk hy109; clear hy109
         have H' := Aside0.mk H
         clear H
         have p107 : 0 ≤ (x6_1 : Int) := of_decide_eq_true (by first | (with_reducible assumption) | assumption)
         have q107 : x6_1 < (l0.length : Int) := of_decide_eq_true (by first | (with_reducible assumption) | assumption)
         obtain ⟨ad107, e107, hx107_0⟩ := Kd.at_int (Kd.R_reads' HO_0.out).2.2 x6_1 p107 q107
         cases e107
         replace p107 := eq_true p107; replace q107 := eq_true q107
         have p108 : 0 ≤ (x6_1 : Int) := of_decide_eq_true (by first | (with_reducible assumption) | assumption)
         have q108 : x6_1 < (l0.length : Int) := of_decide_eq_true (by first | (with_reducible assumption) | assumption)
         obtain ⟨ad108, e108, hx108_0⟩ := Kd.at_int (Kd.R_reads' HO_0.out).2.2 x6_1 p108 q108
         obtain rfl : ad107 = ad108 := (by injection e108)
         replace p108 := eq_true p108; replace q108 := eq_true q108
         go_wp2_with (first | ((with_reducible refine gate_builtin (b := .append) (xs := #[.tmp 23, .tmp 28]) rfl ?_); at_builtin; refine Kd.R_append (Kd.int .i64) (w0 := w0) w0.heap.size rfl (.tmp 23) (.tmp 28) 25 3 (.int .i64 0) 8 rfl Try.underlying25 info3 rfl (by decide) (by omega) u5 x5_1 (rd l0 x6_1) [.int .i64 (rd l0 x6_1)] (fun k_ => (P0_ k_ ∨ w.heap.size ≤ k_) ∧ some k_ ≠ (.slice (some ad107) l0.length co7 : Value).ownBlock) (fun _ => False) rfl rfl ?aP (fun _ hk => hk.elim) ?aF ?aO ?aB ?aS ?aL ?_; (case aP => exact rfl); (case aB => exact (byB HB.out)); (case aF => exact (fun k_ hk => ⟨(.inr (Nat.le_trans (by first | exact HK.out.1 | exact (show Kept w _ (fun k_ => P0_ k_) from by repeat (first | (with_reducible first | exact HK.out | apply Kept.alloc | apply Kept.drewN | apply Kept.drew) | exact HK.out)).1) hk)), Kd.fresh' (Kd.R_lt (byR HO_0.out)) k_ hk⟩)); (case aO => exact (byR HO_5.out)); (case aS => exact (below_size (byB HB.out))); (case aL => have := LMc11.out; omega); intro v110 w12 ho hb hg hat; rw [← Ny109.out] at ho; have n0_ := Aside0.mk (Kd.R_after (ok := (fun k_ => (P0_ k_ ∨ w.heap.size ≤ k_))) (byR HO_0.out) hg hat); have n1_ := Aside0.mk (hb); have n2_ := Aside0.mk (Kept.of_grown (S := (fun k_ => P0_ k_)) hg (by repeat (first | (with_reducible first | exact HK.out | apply Kept.alloc | apply Kept.drewN | apply Kept.drew) | exact HK.out)) (fun k_ e_ => (HO_5.out.1 k_ e_).1)); have n3_ := Aside0.mk (ho); clear HO_0 HB HK HO_5; have HO_0 := n0_; have HB := n1_; have HK := n2_; have HO111 := n3_; clear n0_ n1_ n2_ n3_ ho hb hg hat))
         go_roundg k1
         case measure => have := HK1.out; omega
         case rel => exact ⟨(y109), (wrap64 (x6_1 + 1)), (by first | rfl | (simp; done) | (simp [*]; done)), H', ⟨by have := HK1.out; omega⟩, ⟨by (with_reducible repeat (first | apply Kd.R_alloc | apply Kd.R_drewN | apply Kd.R_drew)); exact HO_0.out⟩, ⟨by (with_reducible repeat (first | apply Kd.R_alloc | apply Kd.R_drewN | apply Kd.R_drew)); exact HO111.out⟩, ⟨by repeat (first | (with_reducible first | exact HK.out | apply Kept.alloc | apply Kept.drewN | apply Kept.drew) | exact HK.out)⟩, ⟨by repeat (first | (with_reducible first | exact HB.out | apply below_alloc | apply pw_below_drewN | apply below_drew1) | exact HB.out)⟩⟩
        ·rw [if_neg c11] at H
         exact absurd H (by simp)
       ·rw [if_neg c10] at H
        have c10b0 : decide ((rd l0 x6_1) < a1) = false := decide_eq_false c10
        clear c10
        have H' := Aside0.mk H
        clear H
        have p107 : 0 ≤ (x6_1 : Int) := of_decide_eq_true (by first | (with_reducible assumption) | assumption)
        have q107 : x6_1 < (l0.length : Int) := of_decide_eq_true (by first | (with_reducible assumption) | assumption)
        obtain ⟨ad107, e107, hx107_0⟩ := Kd.at_int (Kd.R_reads' HO_0.out).2.2 x6_1 p107 q107
        cases e107
        replace p107 := eq_true p107; replace q107 := eq_true q107
        go_wp2
        go_meet
        case rel => exact ⟨_, (x5_1), (x6_1), (by first | rfl | (simp; done) | (simp [*]; done)), H', ⟨by have := HK1.out; first | omega | exact Nat.le_refl _⟩, ⟨by (with_reducible repeat (first | apply Kd.R_alloc | apply Kd.R_drewN | apply Kd.R_drew)); exact HO_0.out⟩, ⟨by (with_reducible repeat (first | apply Kd.R_alloc | apply Kd.R_drewN | apply Kd.R_drew)); exact HO_5.out⟩, ⟨by repeat (first | (with_reducible first | exact HK.out | apply Kept.alloc | apply Kept.drewN | apply Kept.drew) | exact HK.out)⟩, ⟨by repeat (first | (with_reducible first | exact HB.out | apply below_alloc | apply pw_below_drewN | apply below_drew1) | exact HB.out)⟩⟩
      ·rw [if_neg c9] at H
       exact absurd H (by simp)
     ·rw [if_neg c8] at H
      have c8b0 : decide (x6_1 < (l0.length : Int)) = false := decide_eq_false c8
      clear c8
      (first | rw [c8b0] | (simp only [i64_w, i32_w]; rw [c8b0]) | skip)
      have H' := Aside0.mk H
      clear H
      go_wp2
      go_meet
      case rel => exact ⟨_, (x5_1), (x6_1), (by first | rfl | (simp; done) | (simp [*]; done)), H', ⟨by have := HK1.out; first | omega | exact Nat.le_refl _⟩, ⟨by (with_reducible repeat (first | apply Kd.R_alloc | apply Kd.R_drewN | apply Kd.R_drew)); exact HO_0.out⟩, ⟨by (with_reducible repeat (first | apply Kd.R_alloc | apply Kd.R_drewN | apply Kd.R_drew)); exact HO_5.out⟩, ⟨by repeat (first | (with_reducible first | exact HK.out | apply Kept.alloc | apply Kept.drewN | apply Kept.drew) | exact HK.out)⟩, ⟨by repeat (first | (with_reducible first | exact HB.out | apply below_alloc | apply pw_below_drewN | apply below_drew1) | exact HB.out)⟩⟩
  case rest =>
   clear HC6
   try clear c1
   try clear p1
   try clear q1
   try clear hx1
   try clear p2
   try clear c4
   try clear c5
   try clear p6
   try clear c8
   try clear c8b0
   try clear c9
   try clear c9b0
   try clear c10
   try clear c10b0
   try clear p10
   try clear q10
   try clear hx10
   try clear c11
   try clear hx107_0
   try clear hx108_0
   try clear p107
   try clear p108
   try clear p2
   try clear q107
   try clear q108
   obtain ⟨kq, x5_5, x6_5, rfl, HA, HJ5, HO_0, HO_5, HK, HB⟩ := hcut
   cases kq with
   | zero => exact absurd HA.out (by simp [mapmakerref05_With.j1])
   | succ kj5 =>
    have H := HA.out; clear HA
    simp only [mapmakerref05_With.j1] at H
    by_cases c13 : x5_5.length < 17592186044416
    ·rw [if_pos c13] at H
     have LMc13 := Aside0.mk c13; clear c13
     obtain ⟨y112, hy112⟩ : ∃ y_ : List Int, y_ = (x5_5 ++ [a1]) := ⟨_, rfl⟩
     replace H : (mapmakerref05_With.l1 kj5 l0 y112 x6_5) = some r := by first | (rw [hy112]; with_reducible exact H) | (have H2_ := (Option.bind_some _ _).symm.trans H; rw [hy112]; with_reducible exact H2_) | (have H2_ := (Option.bind_some _ _).symm.trans H; with_reducible exact H2_) | with_reducible exact H | (rw [hy112]; exact H) | exact H
     have Ny112 := Aside0.mk hy112; clear hy112
     have H' := Aside0.mk H
     clear H
     go_wp2_with (first | ((with_reducible refine gate_builtin (b := .append) (xs := #[.tmp 32, .tmp 34]) rfl ?_); at_builtin; refine Kd.R_append (Kd.int .i64) (w0 := w0) w0.heap.size rfl (.tmp 32) (.tmp 34) 25 3 (.int .i64 0) 8 rfl Try.underlying25 info3 rfl (by decide) (by omega) u5 x5_5 a1 [.int .i64 a1] (fun k_ => (P0_ k_ ∨ w.heap.size ≤ k_) ∧ some k_ ≠ (.slice Ao7 l0.length co7 : Value).ownBlock) (fun _ => False) rfl rfl ?aP (fun _ hk => hk.elim) ?aF ?aO ?aB ?aS ?aL ?_; (case aP => exact rfl); (case aB => exact (byB HB.out)); (case aF => exact (fun k_ hk => ⟨(.inr (Nat.le_trans (by first | exact HK.out.1 | exact (show Kept w _ (fun k_ => P0_ k_) from by repeat (first | (with_reducible first | exact HK.out | apply Kept.alloc | apply Kept.drewN | apply Kept.drew) | exact HK.out)).1) hk)), Kd.fresh' (Kd.R_lt (byR HO_0.out)) k_ hk⟩)); (case aO => exact (byR HO_5.out)); (case aS => exact (below_size (byB HB.out))); (case aL => have := LMc13.out; omega); intro v113 w14 ho hb hg hat; rw [← Ny112.out] at ho; have n0_ := Aside0.mk (Kd.R_after (ok := (fun k_ => (P0_ k_ ∨ w.heap.size ≤ k_))) (byR HO_0.out) hg hat); have n1_ := Aside0.mk (hb); have n2_ := Aside0.mk (Kept.of_grown (S := (fun k_ => P0_ k_)) hg (by repeat (first | (with_reducible first | exact HK.out | apply Kept.alloc | apply Kept.drewN | apply Kept.drew) | exact HK.out)) (fun k_ e_ => (HO_5.out.1 k_ e_).1)); have n3_ := Aside0.mk (ho); clear HO_0 HB HK HO_5; have HO_0 := n0_; have HB := n1_; have HK := n2_; have HO114 := n3_; clear n0_ n1_ n2_ n3_ ho hb hg hat))
     go_loopg [5, 6] kj5 (fun kq v5 v6 w' => ∃ (x5_2 : List Int) (x6_2 : Int), v6 = .int .i64 x6_2 ∧ Aside0 (mapmakerref05_With.l1 kq l0 x5_2 x6_2 = some r) ∧ Aside0 (kq ≤ kj5) ∧ Aside0 (Kd.R (Kd.int .i64) 3 w' w0.heap.size (fun k_ => (P0_ k_ ∨ w.heap.size ≤ k_) ∧ some k_ ≠ (v5 : Value).ownBlock) (.slice Ao7 l0.length co7) l0) ∧ Aside0 (Kd.R (Kd.int .i64) 3 w' w0.heap.size (fun k_ => (P0_ k_ ∨ w.heap.size ≤ k_) ∧ some k_ ≠ ((.slice Ao7 l0.length co7) : Value).ownBlock) v5 x5_2) ∧ Aside0 (Kept w w' (fun k_ => P0_ k_)) ∧ Aside0 (Below w0.heap.size w0 w'))
     case atStart => exact ⟨(y112), (x6_5), (by first | rfl | (simp; done) | (simp [*]; done)), H', ⟨Nat.le_refl _⟩, ⟨by (with_reducible repeat (first | apply Kd.R_alloc | apply Kd.R_drewN | apply Kd.R_drew)); exact HO_0.out⟩, ⟨by (with_reducible repeat (first | apply Kd.R_alloc | apply Kd.R_drewN | apply Kd.R_drew)); exact HO114.out⟩, ⟨by repeat (first | (with_reducible first | exact HK.out | apply Kept.alloc | apply Kept.drewN | apply Kept.drew) | exact HK.out)⟩, ⟨by repeat (first | (with_reducible first | exact HB.out | apply below_alloc | apply pw_below_drewN | apply below_drew1) | exact HB.out)⟩⟩
     case round =>
      clear H'
      try clear c1
      try clear p1
      try clear q1
      try clear hx1
      try clear p2
      try clear c4
      try clear c5
      try clear p6
      try clear c8
      try clear c8b0
      try clear c9
      try clear c9b0
      try clear c10
      try clear c10b0
      try clear p10
      try clear q10
      try clear hx10
      try clear c11
      try clear c13
      try clear hx107_0
      try clear hx108_0
      try clear p1
      try clear p10
      try clear p107
      try clear p108
      try clear p2
      try clear p6
      try clear q1
      try clear q10
      try clear q107
      try clear q108
      obtain ⟨x5_2, x6_2, rfl, HA, HK2, HO_0, HO_5, HK, HB⟩ := hrel
      cases gk with
      | zero => exact absurd HA.out (by simp [mapmakerref05_With.l1])
      | succ k2 =>
       have H := HA.out; clear HA
       simp only [mapmakerref05_With.l1] at H
       by_cases c15 : x6_2 < (l0.length : Int)
       ·rw [if_pos c15] at H
        have c15b0 : decide (x6_2 < (l0.length : Int)) = true := decide_eq_true c15
        clear c15
        by_cases c16 : 0 ≤ x6_2
        ·rw [if_pos c16] at H
         have c16b0 : decide (0 ≤ x6_2) = true := decide_eq_true c16
         clear c16
         by_cases c17 : x5_2.length < 17592186044416
         ·rw [if_pos c17] at H
          have LMc17 := Aside0.mk c17; clear c17
          obtain ⟨y116, hy116⟩ : ∃ y_ : List Int, y_ = (x5_2 ++ [rd l0 x6_2]) := ⟨_, rfl⟩
          replace H : (mapmakerref05_With.l1 k2 l0 y116 (wrap64 (x6_2 + 1))) = some r := by first | (rw [hy116]; with_reducible exact H) | (have H2_ := (Option.bind_some _ _).symm.trans H; rw [hy116]; with_reducible exact H2_) | (have H2_ := (Option.bind_some _ _).symm.trans H; with_reducible exact H2_) | with_reducible exact H | (rw [hy116]; exact H) | exact H
          have Ny116 := Aside0.mk hy116; clear hy116
          have H' := Aside0.mk H
          clear H
          have p115 : 0 ≤ (x6_2 : Int) := of_decide_eq_true (by first | (with_reducible assumption) | assumption)
          have q115 : x6_2 < (l0.length : Int) := of_decide_eq_true (by first | (with_reducible assumption) | assumption)
          obtain ⟨ad115, e115, hx115_0⟩ := Kd.at_int (Kd.R_reads' HO_0.out).2.2 x6_2 p115 q115
          cases e115
          replace p115 := eq_true p115; replace q115 := eq_true q115
          go_wp2_with (first | ((with_reducible refine gate_builtin (b := .append) (xs := #[.tmp 40, .tmp 45]) rfl ?_); at_builtin; refine Kd.R_append (Kd.int .i64) (w0 := w0) w0.heap.size rfl (.tmp 40) (.tmp 45) 25 3 (.int .i64 0) 8 rfl Try.underlying25 info3 rfl (by decide) (by omega) u5 x5_2 (rd l0 x6_2) [.int .i64 (rd l0 x6_2)] (fun k_ => (P0_ k_ ∨ w.heap.size ≤ k_) ∧ some k_ ≠ (.slice (some ad115) l0.length co7 : Value).ownBlock) (fun _ => False) rfl rfl ?aP (fun _ hk => hk.elim) ?aF ?aO ?aB ?aS ?aL ?_; (case aP => exact rfl); (case aB => exact (byB HB.out)); (case aF => exact (fun k_ hk => ⟨(.inr (Nat.le_trans (by first | exact HK.out.1 | exact (show Kept w _ (fun k_ => P0_ k_) from by repeat (first | (with_reducible first | exact HK.out | apply Kept.alloc | apply Kept.drewN | apply Kept.drew) | exact HK.out)).1) hk)), Kd.fresh' (Kd.R_lt (byR HO_0.out)) k_ hk⟩)); (case aO => exact (byR HO_5.out)); (case aS => exact (below_size (byB HB.out))); (case aL => have := LMc17.out; omega); intro v117 w18 ho hb hg hat; rw [← Ny116.out] at ho; have n0_ := Aside0.mk (Kd.R_after (ok := (fun k_ => (P0_ k_ ∨ w.heap.size ≤ k_))) (byR HO_0.out) hg hat); have n1_ := Aside0.mk (hb); have n2_ := Aside0.mk (Kept.of_grown (S := (fun k_ => P0_ k_)) hg (by repeat (first | (with_reducible first | exact HK.out | apply Kept.alloc | apply Kept.drewN | apply Kept.drew) | exact HK.out)) (fun k_ e_ => (HO_5.out.1 k_ e_).1)); have n3_ := Aside0.mk (ho); clear HO_0 HB HK HO_5; have HO_0 := n0_; have HB := n1_; have HK := n2_; have HO118 := n3_; clear n0_ n1_ n2_ n3_ ho hb hg hat))
          go_roundg k2
          case measure => have := HJ5.out; have := HK2.out; omega
          case rel => exact ⟨(y116), (wrap64 (x6_2 + 1)), (by first | rfl | (simp; done) | (simp [*]; done)), H', ⟨by have := HJ5.out; have := HK2.out; omega⟩, ⟨by (with_reducible repeat (first | apply Kd.R_alloc | apply Kd.R_drewN | apply Kd.R_drew)); exact HO_0.out⟩, ⟨by (with_reducible repeat (first | apply Kd.R_alloc | apply Kd.R_drewN | apply Kd.R_drew)); exact HO118.out⟩, ⟨by repeat (first | (with_reducible first | exact HK.out | apply Kept.alloc | apply Kept.drewN | apply Kept.drew) | exact HK.out)⟩, ⟨by repeat (first | (with_reducible first | exact HB.out | apply below_alloc | apply pw_below_drewN | apply below_drew1) | exact HB.out)⟩⟩
         ·rw [if_neg c17] at H
          exact absurd H (by simp)
        ·rw [if_neg c16] at H
         exact absurd H (by simp)
       ·rw [if_neg c15] at H
        have c15b0 : decide (x6_2 < (l0.length : Int)) = false := decide_eq_false c15
        clear c15
        obtain rfl := Option.some.inj H
        go_wp2
        go_ret
        exact ⟨_, by first | rfl | (simp [errW_none, errW_some] <;> rfl) | (simp [*, errW_none, errW_some] <;> rfl), by (with_reducible repeat (first | apply Kd.R_alloc | apply Kd.R_drewN | apply Kd.R_drew)); exact Kd.R_mono HO_5.out (fun _ hk => hk.1), by repeat (first | (with_reducible first | exact HB.out | apply below_alloc | apply pw_below_drewN | apply below_drew1) | exact HB.out), by repeat (first | (with_reducible first | exact HK.out | apply Kept.alloc | apply Kept.drewN | apply Kept.drew) | exact HK.out)⟩
    ·rw [if_neg c13] at H
     exact absurd H (by simp)

end Go.Proofs.Ytcfeehaoeaoegaa.Print
