/- Several texts of this claim in one: F44, HROrd, F58, HKRank, HKArcs. -/
import Derived.Test.YtfnophaiamkmpaaPrint0
import Derived.Test.YtfnophaiamkmpaaM1
import Derived.Test.YtfnophaiamkmpaaM8
import Derived.Test.YtfnophaiamkmpaaM3
import Derived.Test.YtfnophaiamkmpaaM0
import Derived.Shelf.SlicesE.Clone
namespace Go.Proofs.Ytfnophaiamkmpaa.Print
open Go.RowKit Go.Proofs.YtfnophaiamkmpaaW.PrintWords Go.Proofs.YtfnophaiamkmpaaW.PrintLast Go.Proofs.YtfnophaiamkmpaaW.PrintMore
attribute [local go_sem] max2_int min2_int max_two min_two max_three min_three max_four min_four   -- for this text's walks alone
set_option linter.unusedVariables false
set_option linter.unusedSimpArgs false
/-! ### mapmakerref39_Check: function 44 -/
mutual
def mapmakerref39_Check.l0 : Nat → Int → List Int → Int → Option (Int)
 | 0, _, _, _ => none
 | k + 1, x0, x1, x5 => if x5 < (x1.length : Int) then (if 0 ≤ x5 then (if (rd x1 x5) < 0 then (mapmakerref39_Check.j1 k x0 x1 x5 true) else (mapmakerref39_Check.j1 k x0 x1 x5 (decide ((rd x1 x5) ≥ x0)))) else (none)) else (if (x1.length : Int) < x0 then (some 12) else (some 0))
def mapmakerref39_Check.j1 : Nat → Int → List Int → Int → Bool → Option (Int)
 | 0, _, _, _, _ => none
 | k + 1, x0, x1, x5, x25 => if x25 = true then (some 2) else (mapmakerref39_Check.l1 k x0 x1 x5 0)
def mapmakerref39_Check.l1 : Nat → Int → List Int → Int → Int → Option (Int)
 | 0, _, _, _, _ => none
 | k + 1, x0, x1, x5, x6 => if x6 < x5 then (if 0 ≤ x6 then (if x6 < (x1.length : Int) then (if 0 ≤ x5 then (if x5 < (x1.length : Int) then (if (rd x1 x6) = (rd x1 x5) then (some 7) else (mapmakerref39_Check.l1 k x0 x1 x5 (wrap64 (x6 + 1)))) else (none)) else (none)) else (none)) else (none)) else (mapmakerref39_Check.l0 k x0 x1 (wrap64 (x5 + 1)))
end
def mapmakerref39_Check.f (k : Nat) (a0 : Int) (l1 : List Int) : Option (Int) := mapmakerref39_Check.l0 k a0 l1 0
set_option maxHeartbeats 8000000 in
set_option maxRecDepth 100000 in
theorem mapmakerref39_Check.calls (k : Nat) (a0 : Int) (A1 : Option Addr) (c1 : Nat) (l1 : List Int) (r : Int) (w : World) (hr1 : Kd.C (Kd.int .i64) w A1 l1.length l1) (hc1 : l1.length ≤ c1) (h : mapmakerref39_Check.f k a0 l1 = some r) :
  Calls Try.prog 44 #[.int .i64 a0, .slice A1 l1.length c1] w fun e w' => e = .returned (.int .i64 r) ∧ Drawn0 w w' := by
 have HR1 := Aside0.mk hr1; have HC1 := Aside0.mk hc1; clear hr1 hc1
 have H : (mapmakerref39_Check.l0 k a0 l1 0) = some r := h
 clear h
 have H' := Aside0.mk H
 clear H
 go_enter Try.func44, Try.ntmps44
 go_wp2
 repeat (go_quiet (fail); try go_wp2)
 go_loopg [5] k (fun kq v5 w' => ∃ (x5_1 : Int), v5 = .int .i64 x5_1 ∧ Aside0 (mapmakerref39_Check.l0 kq a0 l1 x5_1 = some r) ∧ Aside0 (kq ≤ k) ∧ Drawn0 w w')
 case atStart => exact ⟨(0), byF, H', ⟨Nat.le_refl _⟩, by repeat (first | exact Drawn0.refl _ | apply Drawn0.step)⟩
 case round =>
  clear H'
  try clear c1
  try clear p2
  obtain ⟨x5_1, rfl, HA, HK1, ⟨m1, rfl⟩⟩ := hrel
  cases gk with
  | zero => exact absurd HA.out (by simp [mapmakerref39_Check.l0])
  | succ k1 =>
   have H := HA.out; clear HA
   simp only [mapmakerref39_Check.l0] at H
   by_cases c3 : x5_1 < (l1.length : Int)
   ·rw [if_pos c3] at H
    have c3b0 : decide (x5_1 < (l1.length : Int)) = true := decide_eq_true c3
    clear c3; have HC4 := Aside0.mk H; clear H
    go_upto_region 4 with (fail)
    repeat (go_quiet (fail); go_upto_region 4 with (fail))
    go_cut [25] (fun v25 wc => ∃ (kq : Nat) (x25_3 : Bool), v25 = .bool x25_3 ∧ Aside0 (mapmakerref39_Check.j1 kq a0 l1 x5_1 x25_3 = some r) ∧ Aside0 (kq ≤ k1) ∧ Drawn0 w wc)
    case first =>
     have H := HC4.out; clear HC4
     by_cases c5 : 0 ≤ x5_1
     ·rw [if_pos c5] at H
      have c5b0 : decide (0 ≤ x5_1) = true := decide_eq_true c5
      clear c5
      (first | rw [c5b0] | (simp only [i64_w, i32_w]; rw [c5b0]) | skip)
      by_cases c6 : (rd l1 x5_1) < 0
      ·rw [if_pos c6] at H
       have c6b0 : decide ((rd l1 x5_1) < 0) = true := decide_eq_true c6
       clear c6
       have H' := Aside0.mk H
       clear H
       have p108 : 0 ≤ (x5_1 : Int) := odt
       have q108 : x5_1 < (l1.length : Int) := odt
       obtain ⟨ad108, e108, hx108_0⟩ := Kd.at_int HR1.out x5_1 p108 q108
       cases e108
       replace p108 := eq_true p108; replace q108 := eq_true q108
       go_wp2
       repeat (go_quiet (fail); try go_wp2)
       go_meet
       case rel => exact ⟨_, (true), byF, H', ⟨by have := HK1.out; first | omega | exact Nat.le_refl _⟩, by repeat (first | exact Drawn0.refl _ | apply Drawn0.step)⟩
      ·rw [if_neg c6] at H
       have c6b0 : decide ((rd l1 x5_1) < 0) = false := decide_eq_false c6
       clear c6
       have H' := Aside0.mk H
       clear H
       have p108 : 0 ≤ (x5_1 : Int) := odt
       have q108 : x5_1 < (l1.length : Int) := odt
       obtain ⟨ad108, e108, hx108_0⟩ := Kd.at_int HR1.out x5_1 p108 q108
       cases e108
       replace p108 := eq_true p108; replace q108 := eq_true q108
       have p109 : 0 ≤ (x5_1 : Int) := odt
       have q109 : x5_1 < (l1.length : Int) := odt
       obtain ⟨ad109, e109, hx109_0⟩ := Kd.at_int HR1.out x5_1 p109 q109
       obtain rfl : ad108 = ad109 := (by injection e109)
       replace p109 := eq_true p109; replace q109 := eq_true q109
       go_wp2
       repeat (go_quiet (fail); try go_wp2)
       go_meet
       case rel => exact ⟨_, (decide ((rd l1 x5_1) ≥ a0)), byF, H', ⟨by have := HK1.out; first | omega | exact Nat.le_refl _⟩, by repeat (first | exact Drawn0.refl _ | apply Drawn0.step)⟩
     ·rw [if_neg c5] at H
      exact absurd H (by simp)
    case rest =>
     clear HC4
     try clear c1
     try clear p1
     try clear q1
     try clear hx1
     try clear p2
     try clear c3
     try clear c3b0
     try clear c4
     try clear c5
     try clear c5b0
     try clear c6
     try clear c6b0
     try clear hx108_0
     try clear hx109_0
     try clear p108
     try clear p109
     try clear p2
     try clear q108
     try clear q109
     obtain ⟨kq, x25_3, rfl, HA, HJ3, ⟨mc3, rfl⟩⟩ := hcut
     cases kq with
     | zero => exact absurd HA.out (by simp [mapmakerref39_Check.j1])
     | succ kj3 =>
      have H := HA.out; clear HA
      simp only [mapmakerref39_Check.j1] at H
      by_cases c7 : x25_3 = true
      ·subst c7
       have H1 : (some 2) = some r := by rw [if_pos rfl] at H; exact H
       clear H; have H := H1; clear H1
       obtain rfl := Option.some.inj H
       go_wp2
       repeat (go_quiet (fail); try go_wp2)
       go_ret
       exact ⟨by first | rfl | (simp; done) | (simp [*]; done), by repeat (first | exact Drawn0.refl _ | apply Drawn0.step)⟩
      ·replace c7 := Bool.eq_false_iff.mpr c7
       subst c7
       have H1 : (mapmakerref39_Check.l1 kj3 a0 l1 x5_1 0) = some r := by rw [if_neg (show ¬ (false = true) by decide)] at H; exact H
       clear H; have H := H1; clear H1
       have H' := Aside0.mk H
       clear H
       go_wp2
       repeat (go_quiet (fail); try go_wp2)
       go_loopg [6] kj3 (fun kq v6 w' => ∃ (x6_3 : Int), v6 = .int .i64 x6_3 ∧ Aside0 (mapmakerref39_Check.l1 kq a0 l1 x5_1 x6_3 = some r) ∧ Aside0 (kq ≤ kj3) ∧ Drawn0 w w')
       case atStart => exact ⟨(0), byF, H', ⟨Nat.le_refl _⟩, by repeat (first | exact Drawn0.refl _ | apply Drawn0.step)⟩
       case round =>
        clear H'
        try clear c1
        try clear p1
        try clear q1
        try clear hx1
        try clear p2
        try clear c3
        try clear c3b0
        try clear c4
        try clear c5
        try clear c5b0
        try clear c6
        try clear c6b0
        try clear c7
        try clear hx108_0
        try clear hx109_0
        try clear p1
        try clear p108
        try clear p109
        try clear p2
        try clear q1
        try clear q108
        try clear q109
        obtain ⟨x6_3, rfl, HA, HK3, ⟨m3, rfl⟩⟩ := hrel
        cases gk with
        | zero => exact absurd HA.out (by simp [mapmakerref39_Check.l1])
        | succ k3 =>
         have H := HA.out; clear HA
         simp only [mapmakerref39_Check.l1] at H
         by_cases c8 : x6_3 < x5_1
         ·rw [if_pos c8] at H
          have c8b0 : decide (x6_3 < x5_1) = true := decide_eq_true c8
          clear c8
          by_cases c9 : 0 ≤ x6_3
          ·rw [if_pos c9] at H
           have c9b0 : decide (0 ≤ x6_3) = true := decide_eq_true c9
           clear c9
           by_cases c10 : x6_3 < (l1.length : Int)
           ·rw [if_pos c10] at H
            have c10b0 : decide (x6_3 < (l1.length : Int)) = true := decide_eq_true c10
            clear c10
            by_cases c11 : 0 ≤ x5_1
            ·rw [if_pos c11] at H
             have c11b0 : decide (0 ≤ x5_1) = true := decide_eq_true c11
             clear c11
             by_cases c12 : x5_1 < (l1.length : Int)
             ·rw [if_pos c12] at H
              have c12b0 : decide (x5_1 < (l1.length : Int)) = true := decide_eq_true c12
              clear c12
              by_cases c13 : (rd l1 x6_3) = (rd l1 x5_1)
              ·rw [if_pos c13] at H
               have c13b0 : ((rd l1 x6_3) == (rd l1 x5_1)) = true := beq_iff_eq.mpr c13
               have c13b1 : ((rd l1 x6_3) != (rd l1 x5_1)) = false := bne_eq_false_iff_eq.mpr c13
               clear c13
               obtain rfl := Option.some.inj H
               have p110 : 0 ≤ (x6_3 : Int) := odt
               have q110 : x6_3 < (l1.length : Int) := odt
               obtain ⟨ad110, e110, hx110_0⟩ := Kd.at_int HR1.out x6_3 p110 q110
               cases e110
               replace p110 := eq_true p110; replace q110 := eq_true q110
               have p111 : 0 ≤ (x5_1 : Int) := odt
               have q111 : x5_1 < (l1.length : Int) := odt
               obtain ⟨ad111, e111, hx111_0⟩ := Kd.at_int HR1.out x5_1 p111 q111
               obtain rfl : ad110 = ad111 := (by injection e111)
               replace p111 := eq_true p111; replace q111 := eq_true q111
               go_wp2
               repeat (go_quiet (fail); try go_wp2)
               go_ret
               exact ⟨by first | rfl | (simp; done) | (simp [*]; done), by repeat (first | exact Drawn0.refl _ | apply Drawn0.step)⟩
              ·rw [if_neg c13] at H
               have c13b0 : ((rd l1 x6_3) == (rd l1 x5_1)) = false := beq_eq_false_iff_ne.mpr c13
               have c13b1 : ((rd l1 x6_3) != (rd l1 x5_1)) = true := bne_iff_ne.mpr c13
               have H' := Aside0.mk H
               clear H
               have p110 : 0 ≤ (x6_3 : Int) := odt
               have q110 : x6_3 < (l1.length : Int) := odt
               obtain ⟨ad110, e110, hx110_0⟩ := Kd.at_int HR1.out x6_3 p110 q110
               cases e110
               replace p110 := eq_true p110; replace q110 := eq_true q110
               have p111 : 0 ≤ (x5_1 : Int) := odt
               have q111 : x5_1 < (l1.length : Int) := odt
               obtain ⟨ad111, e111, hx111_0⟩ := Kd.at_int HR1.out x5_1 p111 q111
               obtain rfl : ad110 = ad111 := (by injection e111)
               replace p111 := eq_true p111; replace q111 := eq_true q111
               go_wp2
               repeat (go_quiet (fail); try go_wp2)
               go_roundg k3
               case measure => have := HK1.out; have := HJ3.out; have := HK3.out; omega
               case rel => exact ⟨(wrap64 (x6_3 + 1)), byF, H', ⟨by have := HK1.out; have := HJ3.out; have := HK3.out; omega⟩, by repeat (first | exact Drawn0.refl _ | apply Drawn0.step)⟩
             ·rw [if_neg c12] at H
              exact absurd H (by simp)
            ·rw [if_neg c11] at H
             exact absurd H (by simp)
           ·rw [if_neg c10] at H
            exact absurd H (by simp)
          ·rw [if_neg c9] at H
           exact absurd H (by simp)
         ·rw [if_neg c8] at H
          have c8b0 : decide (x6_3 < x5_1) = false := decide_eq_false c8
          clear c8
          have H' := Aside0.mk H
          clear H
          go_wp2
          repeat (go_quiet (fail); try go_wp2)
          go_roundg k3
          case measure => have := HK1.out; have := HJ3.out; have := HK3.out; omega
          case rel => exact ⟨(wrap64 (x5_1 + 1)), byF, H', ⟨by have := HK1.out; have := HJ3.out; have := HK3.out; omega⟩, by repeat (first | exact Drawn0.refl _ | apply Drawn0.step)⟩
   ·rw [if_neg c3] at H
    have c3b0 : decide (x5_1 < (l1.length : Int)) = false := decide_eq_false c3
    clear c3
    by_cases c14 : (l1.length : Int) < a0
    ·rw [if_pos c14] at H
     have c14b0 : decide ((l1.length : Int) < a0) = true := decide_eq_true c14
     clear c14
     obtain rfl := Option.some.inj H
     go_wp2
     repeat (go_quiet (fail); try go_wp2)
     go_ret
     exact ⟨by first | rfl | (simp; done) | (simp [*]; done), by repeat (first | exact Drawn0.refl _ | apply Drawn0.step)⟩
    ·rw [if_neg c14] at H
     have c14b0 : decide ((l1.length : Int) < a0) = false := decide_eq_false c14
     clear c14
     obtain rfl := Option.some.inj H
     go_wp2
     repeat (go_quiet (fail); try go_wp2)
     go_ret
     exact ⟨by first | rfl | (simp; done) | (simp [*]; done), by repeat (first | exact Drawn0.refl _ | apply Drawn0.step)⟩
end Go.Proofs.Ytfnophaiamkmpaa.Print
namespace Go.Proofs.Ytfnophaiamkmpaa.Print
open Go.RowKit Go.Proofs.YtfnophaiamkmpaaW.PrintWords Go.Proofs.YtfnophaiamkmpaaW.PrintLast Go.Proofs.YtfnophaiamkmpaaW.PrintMore
set_option linter.unusedVariables false
set_option linter.unusedSimpArgs false
theorem rd_get (l : List Int) {i : Nat} (h : i < l.length) : rd l (i : Int) = l[i] := by
 unfold rd
 simp [List.getElem?_eq_getElem h]
section
variable (n : Int) (l : List Int) (hl : l.length < 1000000000000)
include hl
theorem rord_l1 (i : Nat) (hi : i < l.length) (r : Int) (hr : Ev (fun k => mapmakerref39_Check.l0 k n l ((i + 1 : Nat) : Int)) r) : ∀ (d j : Nat), j + d = i →
  Ev (fun k => mapmakerref39_Check.l1 k n l (i : Int) (j : Int)) (if l[i] ∈ (l.take i).drop j then 7 else r)
 | 0, j, h => by
  have hj : j = i := by omega
  subst hj
  rw [if_neg (by rw [List.drop_eq_nil_iff.2 (by rw [List.length_take]; omega)]; simp)]
  refine Ev.step (fun k => ?_) hr
  rw [mapmakerref39_Check.l1, if_neg (by omega), wrap_succ (show j < 1000000000000000 by omega)]
 | d + 1, j, h => by
  have ih := rord_l1 i hi r hr d (j + 1) (by omega)
  have hj : j < i := by omega
  have hdr : (l.take i).drop j = l[j] :: (l.take i).drop (j + 1) := by
   rw [List.drop_eq_getElem_cons (by rw [List.length_take]; omega)]
   simp
  rw [hdr]
  by_cases he : l[j] = l[i]
  ·rw [if_pos (by rw [he]; simp)]
   refine Ev.step (f := fun _ => some (7 : Int)) (fun k => ?_) (Ev.now _)
   rw [mapmakerref39_Check.l1, if_pos (by omega), if_pos (by omega), if_pos (by omega), if_pos (by omega), if_pos (by omega), rd_get l (by omega), rd_get l hi, if_pos he]
  ·have hm : (l[i] ∈ l[j] :: (l.take i).drop (j + 1)) ↔ l[i] ∈ (l.take i).drop (j + 1) := by
    rw [List.mem_cons]
    constructor
    ·rintro (e | e)
     ·exact absurd e.symm he
     ·exact e
    ·exact .inr
   simp only [hm]
   refine Ev.step (fun k => ?_) ih
   rw [mapmakerref39_Check.l1, if_pos (by omega), if_pos (by omega), if_pos (by omega), if_pos (by omega), if_pos (by omega), rd_get l (by omega), rd_get l hi, if_neg he, wrap_succ (show j < 1000000000000000 by omega)]
theorem rord_l0 : ∀ (d i : Nat), i + d = l.length → Ev (fun k => mapmakerref39_Check.l0 k n l (i : Int)) (ordGo n l.length (l.take i).reverse (l.drop i))
 | 0, i, h => by
  have hi : i = l.length := by omega
  subst hi
  rw [List.drop_length]
  unfold ordGo
  by_cases hn : (l.length : Int) < n
  ·rw [if_pos hn]
   refine Ev.step (f := fun _ => some (12 : Int)) (fun k => ?_) (Ev.now _)
   rw [mapmakerref39_Check.l0, if_neg (by omega), if_pos hn]
  ·rw [if_neg hn]
   refine Ev.step (f := fun _ => some (0 : Int)) (fun k => ?_) (Ev.now _)
   rw [mapmakerref39_Check.l0, if_neg (by omega), if_neg hn]
 | d + 1, i, h => by
  have ih := rord_l0 d (i + 1) (by omega)
  have hi : i < l.length := by omega
  have hdr : l.drop i = l[i] :: l.drop (i + 1) := List.drop_eq_getElem_cons hi
  have htk : (l.take (i + 1)).reverse = l[i] :: (l.take i).reverse := by rw [List.take_succ_eq_append_getElem hi]; simp
  rw [hdr]
  rw [htk] at ih
  unfold ordGo
  by_cases h1 : l[i] < 0
  ·rw [if_pos h1]
   refine Ev.step (f := fun k => mapmakerref39_Check.j1 k n l (i : Int) true) (fun k => ?_) (Ev.step (f := fun _ => some (2 : Int)) (fun k => by rw [mapmakerref39_Check.j1, if_pos rfl]) (Ev.now _))
   rw [mapmakerref39_Check.l0, if_pos (by omega), if_pos (by omega), rd_get l hi, if_pos h1]
  ·rw [if_neg h1]
   by_cases h2 : l[i] ≥ n
   ·rw [if_pos h2]
    refine Ev.step (f := fun k => mapmakerref39_Check.j1 k n l (i : Int) true) (fun k => ?_) (Ev.step (f := fun _ => some (2 : Int)) (fun k => by rw [mapmakerref39_Check.j1, if_pos rfl]) (Ev.now _))
    rw [mapmakerref39_Check.l0, if_pos (by omega), if_pos (by omega), rd_get l hi, if_neg h1, decide_eq_true h2]
   ·rw [if_neg h2]
    have h3 := rord_l1 n l hl i hi _ ih i 0 (by omega)
    rw [List.drop_zero] at h3
    simp only [List.mem_reverse]
    refine Ev.step (f := fun k => mapmakerref39_Check.j1 k n l (i : Int) false) (fun k => ?_) (Ev.step (fun k => by rw [mapmakerref39_Check.j1, if_neg (by decide)]; rfl) h3)
    rw [mapmakerref39_Check.l0, if_pos (by omega), if_pos (by omega), rd_get l hi, if_neg h1, decide_eq_false h2]
theorem mapmakerref39_Check.ev : Ev (fun k => mapmakerref39_Check.f k n l) (ordGo n l.length [] l) := by
 have := rord_l0 n l hl l.length 0 (by omega)
 simpa [mapmakerref39_Check.f] using this
end
attribute [local go_sem] max2_int min2_int max_two min_two max_three min_three max_four min_four   -- for this text's walks alone
set_option linter.unusedVariables false
set_option linter.unusedSimpArgs false
/-! ### order_Ranks: function 58 -/
def order_Ranks.l0 : Nat → List Int → List Int → Int → Int → Option (List Int)
 | 0, _, _, _, _ => none
 | k + 1, x13, x14, x15, x16 => if x16 < x15 then (if 0 ≤ x16 then (if x16 < (x14.length : Int) then (if 0 ≤ (rd x14 x16) then (if (rd x14 x16) < (x13.length : Int) then (order_Ranks.l0 k (x13.set ((rd x14 x16) : Int).toNat x16) x14 x15 (wrap64 (x16 + 1))) else (none)) else (none)) else (none)) else (none)) else (some x13)
def order_Ranks.f (k : Nat) (l0 : List Int) : Option (List Int) := (order_Check.f (l0.length : Int) l0).bind fun t248 => (if t248 = 0 then (if 0 ≤ (l0.length : Int) then (if ((l0.length : Int) : Int).toNat ≤ 35184372088832 then (order_Ranks.l0 k (List.replicate ((l0.length : Int) : Int).toNat 0) l0 (l0.length : Int) 0) else (none)) else (none)) else (some ([] : List Int)))
set_option maxHeartbeats 8000000 in
set_option maxRecDepth 100000 in
theorem order_Ranks.calls (k : Nat) (A0 : Option Addr) (c0 : Nat) (l0 : List Int) (r : List Int) (w : World) (hr0 : Kd.C (Kd.int .i64) w A0 l0.length l0) (hc0 : l0.length ≤ c0) (h : order_Ranks.f k l0 = some r) :
  Calls Try.prog 58 #[.slice A0 l0.length c0] w fun e w' => ∃ v0_ : Value, e = .returned (v0_) ∧ Kd.R (Kd.int .i64) 3 w' w.heap.size (fun _ => True) v0_ r ∧ Below w.heap.size w w' := by
 have HR0 := Aside0.mk hr0; have HC0 := Aside0.mk hc0; clear hr0 hc0; have HB := Aside0.mk (Below.refl w.heap.size w)
 have H : ((order_Check.f (l0.length : Int) l0).bind fun t248 => (if t248 = 0 then (if 0 ≤ (l0.length : Int) then (if ((l0.length : Int) : Int).toNat ≤ 35184372088832 then (order_Ranks.l0 k (List.replicate ((l0.length : Int) : Int).toNat 0) l0 (l0.length : Int) 0) else (none)) else (none)) else (some ([] : List Int)))) = some r := h
 clear h
 replace H := Option.bind_eq_some_iff.mp H
 obtain ⟨t248, A20, H⟩ := H
 replace H : (if t248 = 0 then (if 0 ≤ (l0.length : Int) then (if ((l0.length : Int) : Int).toNat ≤ 35184372088832 then (order_Ranks.l0 k (List.replicate ((l0.length : Int) : Int).toNat 0) l0 (l0.length : Int) 0) else (none)) else (none)) else (some ([] : List Int))) = some r := H
 have A2 := Aside0.mk A20; clear A20
 by_cases c3 : t248 = 0
 ·rw [if_pos c3] at H
  have c3b0 : (t248 == 0) = true := beq_iff_eq.mpr c3
  have c3b1 : (t248 != 0) = false := bne_eq_false_iff_eq.mpr c3
  clear c3
  by_cases c4 : 0 ≤ (l0.length : Int)
  ·rw [if_pos c4] at H
   have c4b0 := eq_true c4
   have c4b1 : decide (0 ≤ (l0.length : Int)) = true := decide_eq_true c4
   clear c4
   by_cases c5 : ((l0.length : Int) : Int).toNat ≤ 35184372088832
   ·rw [if_pos c5] at H
    have c5b0 := eq_true c5
    have c5b1 : decide (((l0.length : Int) : Int).toNat ≤ 35184372088832) = true := decide_eq_true c5
    clear c5
    obtain ⟨y249, hy249⟩ : ∃ y_ : List Int, y_ = (List.replicate ((l0.length : Int) : Int).toNat 0) := ⟨_, rfl⟩
    replace H : (order_Ranks.l0 k y249 l0 (l0.length : Int) 0) = some r := by first | (rw [hy249]; with_reducible exact H) | (have H2_ := (Option.bind_some _ _).symm.trans H; rw [hy249]; with_reducible exact H2_) | (have H2_ := (Option.bind_some _ _).symm.trans H; with_reducible exact H2_) | with_reducible exact H | (rw [hy249]; exact H) | exact H
    have Ny249 := Aside0.mk hy249; clear hy249
    have H' := Aside0.mk H
    clear H
    go_enter Try.func58, Try.ntmps58
    go_wp2_with (first | ((with_reducible refine gate_callee (f := 55) rfl ?_); refine goesL_ (some 9) rfl rfl Try.func55 (by kernel_rfl) rfl #[.int .i64 (l0.length : Int), .slice A0 l0.length c0] rfl byL ?_; (with_reducible refine (order_Check.calls (l0.length : Int) _ _ l0 t248 _ ?side1 ?side2 A2.out).mono ?_); (case side1 => repeat (first | exact HR0.out | (with_reducible refine Kd.C_alloc ?_ _) | (with_reducible refine Kd.C_drewN ?_ _) | (with_reducible refine Kd.C_drew ?_))); (case side2 => exact HC0.out); rintro e w6 ⟨rfl, hb⟩; refine ⟨_, rfl, ?_⟩; have n0_ := Aside0.mk (below_step (byB HB.out) hb); clear HB; have HB := n0_; clear n0_; (try clear hb); (try clear hb2); (try clear hk); (try clear hi)) | ((with_reducible refine gate_dst (N := 13) rfl ?_); refine Kd.R_make (Kd.int .i64) _ 3 rfl (N := 13) rfl 25 _ _ rfl (l0.length : Int) rfl rfl Try.underlying25 (.int .i64 0) 8 info3 rfl (by decide) (by omega) 0 (ok := fun _ => True) (okp := fun _ => True) rfl (fun _ hk => hk) trivial (odt) (Nat.le_trans (Nat.mul_le_mul_right _ (odt : (l0.length : Int).toNat ≤ 35184372088832)) (by omega)) (Below.refl _ _) (Nat.le_refl _) ?_; intro v250 w7 ho8 hb hg_ hnew_; clear hg_ hnew_; (first | rw [← Ny249.out] at ho8 | (simp only [Int.reduceToNat] at ho8; rw [← Ny249.out] at ho8)); have n0_ := Aside0.mk (Kd.R_lower ho8 (below_size (byB HB.out))); have n1_ := Aside0.mk (below_step (byB HB.out) hb); clear HB; have HO251 := n0_; have HB := n1_; clear n0_ n1_ hb ho8))
    go_loopg [16] k (fun kq v16 w' => ∃ (x13_1 : List Int) (x16_1 : Int), v16 = .int .i64 x16_1 ∧ Aside0 (order_Ranks.l0 kq x13_1 l0 (l0.length : Int) x16_1 = some r) ∧ Aside0 (kq ≤ k) ∧ Aside0 (Kd.R (Kd.int .i64) 3 w' w.heap.size (fun _ => True) v250 x13_1) ∧ Aside0 (Below w.heap.size w w'))
    case atStart => exact ⟨(y249), (0), byF, H', ⟨Nat.le_refl _⟩, ⟨by (with_reducible repeat (first | apply Kd.R_alloc | apply Kd.R_drewN | apply Kd.R_drew)); exact HO251.out⟩, ⟨byB HB.out⟩⟩
    case round =>
     clear H'
     try clear p2
     try clear c3
     try clear c3b0
     try clear c3b1
     try clear c4
     try clear c4b0
     try clear c4b1
     try clear c5
     try clear c5b0
     try clear c5b1
     obtain ⟨x13_1, x16_1, rfl, HA, HK1, HO_13, HB⟩ := hrel
     cases gk with
     | zero => exact absurd HA.out (by simp [order_Ranks.l0])
     | succ k1 =>
      have H := HA.out; clear HA
      simp only [order_Ranks.l0] at H
      by_cases c9 : x16_1 < (l0.length : Int)
      ·rw [if_pos c9] at H
       have c9b0 : decide (x16_1 < (l0.length : Int)) = true := decide_eq_true c9
       clear c9
       by_cases c10 : 0 ≤ x16_1
       ·rw [if_pos c10] at H
        have c10b0 : decide (0 ≤ x16_1) = true := decide_eq_true c10
        clear c10
        by_cases c11 : x16_1 < (l0.length : Int)
        ·rw [if_pos c11] at H
         have c11b0 : decide (x16_1 < (l0.length : Int)) = true := decide_eq_true c11
         clear c11
         by_cases c12 : 0 ≤ (rd l0 x16_1)
         ·rw [if_pos c12] at H
          have c12b0 : decide (0 ≤ (rd l0 x16_1)) = true := decide_eq_true c12
          clear c12
          by_cases c13 : (rd l0 x16_1) < (x13_1.length : Int)
          ·rw [if_pos c13] at H
           have c13b0 : decide ((rd l0 x16_1) < (x13_1.length : Int)) = true := decide_eq_true c13
           clear c13
           obtain ⟨y253, hy253⟩ : ∃ y_ : List Int, y_ = (x13_1.set ((rd l0 x16_1) : Int).toNat x16_1) := ⟨_, rfl⟩
           replace H : (order_Ranks.l0 k1 y253 l0 (l0.length : Int) (wrap64 (x16_1 + 1))) = some r := by first | (rw [hy253]; with_reducible exact H) | (have H2_ := (Option.bind_some _ _).symm.trans H; rw [hy253]; with_reducible exact H2_) | (have H2_ := (Option.bind_some _ _).symm.trans H; with_reducible exact H2_) | with_reducible exact H | (rw [hy253]; exact H) | exact H
           have Ny253 := Aside0.mk hy253; clear hy253
           have H' := Aside0.mk H
           clear H
           have p252 : 0 ≤ (x16_1 : Int) := odt
           have q252 : x16_1 < (l0.length : Int) := odt
           obtain ⟨ad252, e252, hx252_0⟩ := Kd.at_int HR0.out x16_1 p252 q252
           cases e252
           replace hx252_0 := (HB.out.cell (World.block_lt_of_cell? w _ hx252_0)).trans hx252_0
           replace p252 := eq_true p252; replace q252 := eq_true q252
           have p14 : 0 ≤ ((rd l0 x16_1) : Int) := odt
           have q14 : ((rd l0 x16_1) : Int) < ((x13_1.length : Int) : Int) := odt
           obtain ⟨go14, co14, eo14, gb14, gl14, cl14, HG14⟩ := Kd.R_form HO_13.out (by omega)
           (first | cases eo14 | (injection eo14 with ea_ en_ ec_; (first | subst ea_ | (injection ea_ with ea_; subst ea_)); subst ec_; clear en_))
           have GB14 := Aside0.mk gb14; have GG14 := Aside0.mk HG14; clear gb14 gl14 HG14
           obtain ⟨hx14_0, hf14_0⟩ := Kd.R_celln 0 HO_13.out ((rd l0 x16_1) : Int) p14 q14
           replace p14 := eq_true p14; replace q14 := eq_true q14
           have HP15 := Kd.R_putg HO_13.out ((rd l0 x16_1) : Int) x16_1
           go_wp2_with (first | ((with_reducible refine gate_store (t := 3) (p := 24) rfl ?_); refine store_event (t := 3) (p := 24) (v := ?vo_w16) (w1 := (wr.setCell ⟨go14, ((rd l0 x16_1) : Int).toNat, none⟩ (.int .i64 x16_1))) ?hg ?ho ?hn ?hr ?_; (case ho => rfl); (case hg => rfl); (case hn => rfl); (case hr => first | (go_simp; done) | (go_simp; rfl)); intro w16 hw; have hg : wr.grownBy w16 (some go14) := (by rw [hw]; exact HP15.2); have hp_ : Kd.R (Kd.int .i64) 3 w16 w.heap.size (fun _ => True) (.slice (some ⟨go14, 0, none⟩) x13_1.length co14) y253 := (by rw [hw, Ny253.out]; exact HP15.1); clear HP15; have n0_ := Aside0.mk (hp_); have n1_ := Aside0.mk ((by rw [hw]; exact below_set (HB.out) GB14.out : Below w.heap.size w w16)); clear HO_13 HB; have HO_13 := n0_; have HB := n1_; clear n0_ n1_ hg hw hp_))
           go_roundg k1
           case measure => have := HK1.out; omega
           case rel => exact ⟨(y253), (wrap64 (x16_1 + 1)), byF, H', ⟨by have := HK1.out; omega⟩, ⟨by (with_reducible repeat (first | apply Kd.R_alloc | apply Kd.R_drewN | apply Kd.R_drew)); exact HO_13.out⟩, ⟨byB HB.out⟩⟩
          ·rw [if_neg c13] at H
           exact absurd H (by simp)
         ·rw [if_neg c12] at H
          exact absurd H (by simp)
        ·rw [if_neg c11] at H
         exact absurd H (by simp)
       ·rw [if_neg c10] at H
        exact absurd H (by simp)
      ·rw [if_neg c9] at H
       have c9b0 : decide (x16_1 < (l0.length : Int)) = false := decide_eq_false c9
       clear c9
       obtain rfl := Option.some.inj H
       go_wp2
       go_ret
       exact ⟨_, byE, by (with_reducible repeat (first | apply Kd.R_alloc | apply Kd.R_drewN | apply Kd.R_drew)); exact HO_13.out, byB HB.out⟩
   ·rw [if_neg c5] at H
    exact absurd H (by simp)
  ·rw [if_neg c4] at H
   exact absurd H (by simp)
 ·rw [if_neg c3] at H
  have c3b0 : (t248 == 0) = false := beq_eq_false_iff_ne.mpr c3
  have c3b1 : (t248 != 0) = true := bne_iff_ne.mpr c3
  obtain rfl := Option.some.inj H
  go_enter Try.func58, Try.ntmps58
  go_wp2_with (first | ((with_reducible refine gate_callee (f := 55) rfl ?_); refine goesL_ (some 9) rfl rfl Try.func55 (by kernel_rfl) rfl #[.int .i64 (l0.length : Int), .slice A0 l0.length c0] rfl byL ?_; (with_reducible refine (order_Check.calls (l0.length : Int) _ _ l0 t248 _ ?side1 ?side2 A2.out).mono ?_); (case side1 => repeat (first | exact HR0.out | (with_reducible refine Kd.C_alloc ?_ _) | (with_reducible refine Kd.C_drewN ?_ _) | (with_reducible refine Kd.C_drew ?_))); (case side2 => exact HC0.out); rintro e w17 ⟨rfl, hb⟩; refine ⟨_, rfl, ?_⟩; have n0_ := Aside0.mk (below_step (byB HB.out) hb); clear HB; have HB := n0_; clear n0_; (try clear hb); (try clear hb2); (try clear hk); (try clear hi)))
  go_ret
  exact ⟨_, byE, by first | exact Kd.R_nil _ _ _ _ _ | exact Kd.N_nil _ _ _ _ _ | exact Kd.V_nil _ _ _ _ _ | exact Kd.Q_nil _ _ _ _ _ | exact Kd.S_nil _ _ _ _ _, byB HB.out⟩
end Go.Proofs.Ytfnophaiamkmpaa.Print
namespace Go.Proofs.Ytfnophaiamkmpaa.Print
open Go.RowKit Go.Proofs.YtfnophaiamkmpaaW.PrintWords Go.Proofs.YtfnophaiamkmpaaW.PrintLast Go.Proofs.YtfnophaiamkmpaaW.PrintMore
set_option linter.unusedVariables false
set_option linter.unusedSimpArgs false
theorem ordGo_cons {n len v : Int} {seen r : List Int} (h : ordGo n len seen (v :: r) = 0) : 0 ≤ v ∧ v < n ∧ ¬ v ∈ seen ∧ ordGo n len (v :: seen) r = 0 := by
 unfold ordGo at h
 split at h
 ·omega
 ·split at h
  ·omega
  ·split at h
   ·omega
   ·rename_i h1 h2 h3
    exact ⟨by omega, by omega, h3, h⟩
theorem ord_all {n len : Int} : ∀ (r seen : List Int), ordGo n len seen r = 0 → (∀ v ∈ r, 0 ≤ v ∧ v < n) ∧ r.Nodup ∧ (∀ v ∈ r, ¬ v ∈ seen) ∧ ¬ len < n
 | [], seen, h => by
  unfold ordGo at h
  split at h
  ·omega
  ·rename_i hn
   exact ⟨by simp, List.nodup_nil, by simp, hn⟩
 | v :: r, seen, h => by
  obtain ⟨h1, h2, h3, h4⟩ := ordGo_cons h
  obtain ⟨g1, g2, g3, g4⟩ := ord_all r (v :: seen) h4
  refine ⟨fun x hx => ?_, ?_, fun x hx hs => ?_, g4⟩
  ·rcases List.mem_cons.1 hx with rfl | hx
   ·exact ⟨h1, h2⟩
   ·exact g1 x hx
  ·rw [List.nodup_cons]
   exact ⟨fun hx => g3 v hx (by simp), g2⟩
  ·rcases List.mem_cons.1 hx with rfl | hx
   ·exact h3 hs
   ·exact g3 x hx (by simp [hs])
def ranksTo (l : List Int) : Nat → List Int
 | 0 => List.replicate l.length 0
 | i + 1 => (ranksTo l i).set (l.getD i 0).toNat i
theorem ranksTo_length (l : List Int) : ∀ i, (ranksTo l i).length = l.length
 | 0 => by simp [ranksTo]
 | i + 1 => by
  unfold ranksTo
  rw [List.length_set, ranksTo_length l i]
def ranksS (l : List Int) : List Int := if ordGo l.length l.length [] l = 0 then ranksTo l l.length else []
section
variable (l : List Int) (hl : l.length < 1000000000000)
include hl
theorem order_Ranks.l0_ev (ho : ordGo l.length l.length [] l = 0) : ∀ (d i : Nat), i + d = l.length → Ev (fun k => order_Ranks.l0 k (ranksTo l i) l (l.length : Int) (i : Int)) (ranksTo l l.length)
 | 0, i, h => by
  have hi : i = l.length := by omega
  subst hi
  refine Ev.step (f := fun _ => some (ranksTo l l.length)) (fun k => ?_) (Ev.now _)
  rw [order_Ranks.l0, if_neg (by omega)]
 | d + 1, i, h => by
  have hi : i < l.length := by omega
  have hv := (ord_all l [] ho).1 l[i] (List.getElem_mem hi)
  have hlen := ranksTo_length l i
  refine Ev.step (fun k => ?_) (order_Ranks.l0_ev ho d (i + 1) (by omega))
  rw [order_Ranks.l0, if_pos (by omega), if_pos (by omega), if_pos (by omega), rd_get l hi, if_pos hv.1, if_pos (by rw [hlen]; exact hv.2), wrap_succ (show i < 1000000000000000 by omega)]
  show _ = order_Ranks.l0 k ((ranksTo l i).set (l.getD i 0).toNat i) l _ _
  rw [show l.getD i 0 = l[i] by simp [List.getElem?_eq_getElem hi]]
theorem order_Ranks.ev : Ev (fun k => order_Ranks.f k l) (ranksS l) := by
 unfold ranksS
 simp only [order_Ranks.f, order_Check.f, Option.bind_some]
 by_cases ho : ordGo l.length l.length [] l = 0
 ·simp only [ho, if_true]
  refine Ev.congr (fun k => ?_) (order_Ranks.l0_ev l hl ho l.length 0 (by omega))
  rw [if_pos (by omega), if_pos (by omega), Int.toNat_natCast]
  rfl
 ·simp only [ho, if_false]
  exact Ev.now _
end
section
variable {l : List Int} (hn : l.Nodup) (hr : ∀ v ∈ l, 0 ≤ v ∧ v < l.length)
include hn hr
theorem ranksTo_at : ∀ (i : Nat), i ≤ l.length → ∀ (j : Nat) (hj : j < l.length), j < i → (ranksTo l i)[(l[j]).toNat]? = some (j : Int)
 | 0, _, j, hj, h => by omega
 | i + 1, hi, j, hj, h => by
  have hil : i < l.length := by omega
  have e : l.getD i 0 = l[i] := by simp [List.getElem?_eq_getElem hil]
  have hvj := hr l[j] (List.getElem_mem hj)
  have hvi := hr l[i] (List.getElem_mem hil)
  unfold ranksTo
  rw [e, List.getElem?_set]
  by_cases e2 : i = j
  ·subst e2
   rw [if_pos rfl, if_pos (by rw [ranksTo_length]; omega)]
  ·have hne : l[i] ≠ l[j] := fun e3 => e2 ((List.getElem?_inj hil hn).1 (by rw [List.getElem?_eq_getElem hil, List.getElem?_eq_getElem hj, e3]))
   rw [if_neg (by omega)]
   exact ranksTo_at i (by omega) j hj (by omega)
theorem ord_onto (v : Nat) (hv : v < l.length) : ∃ (j : Nat) (hj : j < l.length), l[j] = (v : Int) := by
 have h1 : (v : Int) ∈ l := by
  apply Classical.byContradiction
  intro hno
  have hle : (l.map Int.toNat ++ [v]).length ≤ l.length := nodup_le l.length (l.map Int.toNat ++ [v]) (by
   rw [List.nodup_append]
   refine ⟨?_, by simp, ?_⟩
   ·unfold List.Nodup at hn ⊢
    rw [List.pairwise_map]
    exact hn.imp_of_mem fun {a b} ha hb hne e => hne (by have := (hr a ha).1; have := (hr b hb).1; omega)
   ·intro a ha b hb
    simp at hb
    subst hb
    rintro rfl
    obtain ⟨x, hx, hxe⟩ := List.mem_map.1 ha
    have := (hr x hx).1
    exact hno (by rw [show (a : Int) = x by omega]; exact hx)) (fun x hx => by
   rcases List.mem_append.1 hx with hx | hx
   ·obtain ⟨y, hy, rfl⟩ := List.mem_map.1 hx
    have := hr y hy
    omega
   ·simp at hx
    omega)
  rw [List.length_append, List.length_map] at hle
  simp at hle
  omega
 obtain ⟨j, hj, e⟩ := List.mem_iff_getElem.1 h1
 exact ⟨j, hj, e⟩
theorem ranks_at (j : Nat) (hj : j < l.length) : (ranksTo l l.length)[(l[j]).toNat]? = some (j : Int) := ranksTo_at hn hr l.length (Nat.le_refl _) j hj hj
theorem ranks_val (v : Nat) (hv : v < l.length) : ∃ (j : Nat) (hj : j < l.length), l[j] = (v : Int) ∧ (ranksTo l l.length)[v]? = some (j : Int) := by
 obtain ⟨j, hj, e⟩ := ord_onto hn hr v hv
 have h1 := ranks_at hn hr j hj
 rw [e, Int.toNat_natCast] at h1
 exact ⟨j, hj, e, h1⟩
end
structure IsOrd (n : Nat) (l : List Int) : Prop where
 len : l.length = n
 rng : ∀ v ∈ l, 0 ≤ v ∧ v < (n : Int)
 nd : l.Nodup
theorem isOrd_of {n : Int} {l : List Int} (hn : 0 ≤ n) (h : ordGo n l.length [] l = 0) : IsOrd n.toNat l := by
 obtain ⟨h1, h2, _, h4⟩ := ord_all l [] h
 have h5 : l.length ≤ n.toNat := by
  have := nodup_le n.toNat (l.map Int.toNat) (by
   unfold List.Nodup at h2 ⊢
   rw [List.pairwise_map]
   exact h2.imp_of_mem fun {a b} ha hb hne e => hne (by have := (h1 a ha).1; have := (h1 b hb).1; omega)) (fun x hx => by
   obtain ⟨y, hy, rfl⟩ := List.mem_map.1 hx
   have := h1 y hy
   omega)
  simpa using this
 refine ⟨by omega, fun v hv => ?_, h2⟩
 have := h1 v hv
 omega
theorem ord_of {n len : Int} : ∀ (r seen : List Int), (∀ v ∈ r, 0 ≤ v ∧ v < n) → r.Nodup → (∀ v ∈ r, ¬ v ∈ seen) → ¬ len < n → ordGo n len seen r = 0
 | [], seen, _, _, _, h => by
  unfold ordGo
  rw [if_neg h]
 | v :: r, seen, h1, h2, h3, h4 => by
  rw [List.nodup_cons] at h2
  have hv := h1 v (by simp)
  unfold ordGo
  rw [if_neg (by omega), if_neg (by omega), if_neg (h3 v (by simp))]
  refine ord_of r (v :: seen) (fun x hx => h1 x (by simp [hx])) h2.2 (fun x hx hs => ?_) h4
  rcases List.mem_cons.1 hs with rfl | hs
  ·exact h2.1 hx
  ·exact h3 x (by simp [hx]) hs
theorem ord_of_isOrd {n : Nat} {l : List Int} (h : IsOrd n l) : ordGo (n : Int) l.length [] l = 0 := ord_of l [] h.rng h.nd (by simp) (by rw [h.len]; omega)
theorem ord_self {n : Int} {l : List Int} (hn : 0 ≤ n) (h : ordGo n l.length [] l = 0) : ordGo l.length l.length [] l = 0 := by
 rw [show ((l.length : Nat) : Int) = n by have := (isOrd_of hn h).len; omega]
 have := (isOrd_of hn h).len
 rw [show ((l.length : Nat) : Int) = n by omega] at h
 exact h
end Go.Proofs.Ytfnophaiamkmpaa.Print
namespace Go.Proofs
open Go.Shelf Go.RowKit Go.Lib
def Try.ren_arcs : Go.Shelf.Ren := ⟨fun | 41 => 56 | n => n, fun | 22 => 22 | 23 => 58 | 4 => 4 | n => n, fun | n => n⟩
theorem Try.lays_arcs : Go.Proofs.SlLaysE0.n41 Try.prog Try.ren_arcs := {
 mixed := by kernel_rfl
 f41 := ⟨Try.f56.name, by decide, Try.func56.trans (congrArg some (by kernel_rfl))⟩
 t4 := Try.underlying4
 a4 := Try.isAgg4
 z4 := Try.sizeOf4
 v4 := Try.zeroValue4
 t22 := Try.underlying22
 a22 := Try.isAgg22
 z22 := Try.sizeOf22
 v22 := Try.zeroValue22 }
set_option maxHeartbeats 2000000 in
set_option maxRecDepth 100000 in
theorem any_clone_zero {P : Program} {ρ : Ren} (L : SlLaysE0.n41 P ρ) (i0 : TypeInfo) (z : Value) (size bytes : Nat) (hi : P.info? (ρ.t 23) = some i0) (hz0 : i0.zero = some z) (hz1 : i0.size = size) (hz2 : i0.bytes = bytes) (hzs : z.cells.size = size) (hsz : 0 < size)
  (z23 : ∀ w, (Go.sizeOf (ρ.t 23)).run P w = .ok size w) (a : Addr) (c : Nat) (w : World) :
  Calls P (ρ.f 41) #[.slice (some a) 0 c] w fun e w' => ∃ v', e = .returned v' ∧ w'.ownsRow w.heap.size (ρ.t 23) size v' 0 [] ∧ Below w.heap.size w w' := by
 have mixed := L.mixed; have t4 := L.t4; have a4 := L.a4; have z4 := L.z4; have v4 := L.v4; have t22 := L.t22; have a22 := L.a22; have z22 := L.z22; have v22 := L.v22
 have q22 : ∀ (w : World) (a : Option Addr) (n c n' c' : Nat), (binOp .eql (ρ.t 22) (.slice a n c) (.slice none n' c')).run P w = .ok (.bool a.isNone) w := fun w a n c n' c' => Lib.run_eql_slice_nil w _ _ a n c n' c' L.t22
 have u22 : ∀ w, Sem.run P (underlying (ρ.t 22)) w = .ok (TypeDesc.slice (ρ.t 23)) w := run_underlying t22
 obtain ⟨_, _, FG⟩ := L.f41
 go_enter FG, SlBodyN.n41_ntmps ρ
 go_wp2_with (at_builtin; refine wpList_append_own _ rfl _ _ (ρ.t 22) rfl w.heap.size (ρ.t 23) i0 z size bytes t22 hi hz0 hz1 hz2 hzs hsz _ _ _ rfl (World.ownsRow_made w #[] 0 (Nat.le_refl _) (Nat.zero_le _) (by simp)) a 0 c [] rfl (by simp) (by intro j u hj; simp at hj) (by intro u hu; cases hu) (by unfold maxLen; omega) (by omega) (by simp) ?_)
 intro v' w1 hown hgrow hnil
 go_wp2
 go_ret
 refine ⟨v', rfl, by simpa using hown, ?_⟩
 exact ((Below.refl _ w).alloc (Nat.le_refl _) _).grown hgrow (by simp) (by intro k hk; simp [Value.ownBlock] at hk; omega)
end Go.Proofs
namespace Go.Proofs.Ytfnophaiamkmpaa.Print
open Go.RowKit Go.Proofs.YtfnophaiamkmpaaW.PrintWords Go.Proofs.YtfnophaiamkmpaaW.PrintLast Go.Proofs.YtfnophaiamkmpaaW.PrintMore
set_option linter.unusedVariables false
set_option linter.unusedSimpArgs false
def arcVals (xs : List S58) : List Value := xs.flatMap (fun x => [.int .i64 x.f0, .int .i64 x.f1])
theorem arcVals_len (xs : List S58) : (arcVals xs).length = xs.length * 2 := by
 induction xs with
 | nil => rfl
 | cons x t ih =>
  simp [arcVals] at ih ⊢
  omega
theorem arcVals_at : ∀ (xs : List S58) (j : Nat) (u : Value), (arcVals xs)[j]? = some u → ∃ p i, xs[j / 2]? = some p ∧ i = j % 2 ∧ [Value.int .i64 p.f0, Value.int .i64 p.f1][i]? = some u
 | [], j, u, h => by simp [arcVals] at h
 | x :: t, 0, u, h => ⟨x, 0, rfl, rfl, h⟩
 | x :: t, 1, u, h => ⟨x, 1, rfl, rfl, h⟩
 | x :: t, j + 2, u, h => by
  obtain ⟨p, i, h1, h2, h3⟩ := arcVals_at t j u h
  exact ⟨p, i, by rw [show (j + 2) / 2 = j / 2 + 1 by omega]; exact h1, by omega, h3⟩
theorem arcVals_drop : ∀ (xs : List S58) (j : Nat) (p : S58), xs[j]? = some p → ((arcVals xs).drop (j * 2)).take 2 = [.int .i64 p.f0, .int .i64 p.f1]
 | [], j, p, h => by simp at h
 | x :: t, 0, p, h => by
  simp at h
  subst h
  rfl
 | x :: t, j + 1, p, h => by
  rw [show (j + 1) * 2 = j * 2 + 2 by omega]
  exact arcVals_drop t j p h
theorem arcVals_one (xs : List S58) : ∀ u ∈ arcVals xs, u.oneCell' = true := by
 intro u hu
 simp only [arcVals, List.mem_flatMap] at hu
 obtain ⟨x, _, h⟩ := hu
 simp at h
 rcases h with rfl | rfl <;> rfl
theorem Rarc_of_own {w : World} {base : Nat} {ok : Nat → Prop} {v : Value} {xs : List S58} (ho : w.ownsRow base 58 2 v xs.length (arcVals xs)) (hok : ∀ k, v.ownBlock = some k → ok k) : Kd.R k58 58 w base ok v xs :=
 ⟨hok, arcVals xs, ho, arcVals_len xs, fun j p hp => by
  show k58.M w base _ p (((arcVals xs).drop (j * 2)).take 2)
  rw [arcVals_drop xs j p hp]
  exact k58_mkM _ _ _ _⟩
theorem clone_arcs (A : Option Addr) (c : Nat) (xs : List S58) (w : World) (hr : Kd.C k58 w A xs.length xs) (hb : xs.length ≤ 1000000000) :
  Calls Try.prog 56 #[.slice A xs.length c] w fun e w' => ∃ v' : Value, e = .returned v' ∧ Kd.R k58 58 w' w.heap.size (fun _ => True) v' xs ∧ Below w.heap.size w w' := by
 obtain ⟨i, h1, hh⟩ := Option.map_eq_some_iff.1 info58
 simp only [Prod.mk.injEq] at hh
 cases A with
 | none =>
  have h0 : xs = [] := by
   rcases Nat.eq_zero_or_pos xs.length with h | h
   ·exact List.eq_nil_of_length_eq_zero h
   ·obtain ⟨ad, h2, _⟩ := hr.2.2 h
    cases h2
  subst h0
  refine (AnyE.slices_Clone_nil Try.lays_arcs 0 c w).mono ?_
  rintro e w' ⟨rfl, rfl⟩
  exact ⟨_, rfl, Kd.R_nil _ _ _ _ _, Below.refl _ _⟩
 | some a =>
  rcases Nat.eq_zero_or_pos xs.length with h0 | h0
  ·have h0 : xs = [] := List.eq_nil_of_length_eq_zero h0
   subst h0
   refine (any_clone_zero Try.lays_arcs i _ 2 16 h1 hh.1 hh.2.1 hh.2.2 rfl (by decide) Try.sizeOf58 a c w).mono ?_
   rintro e w' ⟨v', rfl, ho, hB⟩
   exact ⟨_, rfl, Rarc_of_own ho (fun _ _ => trivial), hB⟩
  ·obtain ⟨ad, hA, hc2⟩ := hr.2.2 h0
   injection hA with hA
   subst hA
   have hcells : ∀ j u, (arcVals xs)[j]? = some u → w.cell? (a.add j) = some u := by
    intro j u hj
    obtain ⟨p, i, hp, hi, hu⟩ := arcVals_at xs j u hj
    obtain ⟨cs, hs, hk, hcc⟩ := hc2 _ p hp
    have e1 := k58_open hk
    subst e1
    have := hcc i u hu
    rw [show j / 2 * k58.sz + i = j by rw [show k58.sz = 2 from rfl]; omega] at this
    exact this
   obtain ⟨x, t, rfl⟩ : ∃ x t, xs = x :: t := by
    cases xs with
    | nil => simp at h0
    | cons x t => exact ⟨x, t, rfl⟩
   have e0 := spot_of_cell (hcells 0 (.int .i64 x.f0) rfl)
   rw [e0]
   refine (AnyE.slices_Clone Try.lays_arcs i _ 2 16 h1 hh.1 hh.2.1 hh.2.2 rfl (by decide) Try.sizeOf58 a.block a.off (x :: t).length c (arcVals (x :: t)) w (arcVals_len _) (by unfold maxLen; omega) (by omega) (fun j u hj => ?_) (arcVals_one _)).mono ?_
   ·have := hcells j u hj
    rw [e0, Addr.add_lit] at this
    exact this
   ·rintro e w' ⟨v', rfl, ho, _, hB⟩
    exact ⟨_, rfl, Rarc_of_own ho (fun _ _ => trivial), hB⟩
theorem clone_ints (A : Option Addr) (c : Nat) (l : List Int) (w : World) (hr : Kd.C (Kd.int .i64) w A l.length l) (hb : l.length ≤ 1000000000) :
  Calls Try.prog 57 #[.slice A l.length c] w fun e w' => ∃ v' : Value, e = .returned v' ∧ Kd.R (Kd.int .i64) 3 w' w.heap.size (fun _ => True) v' l ∧ Below w.heap.size w w' := by
 refine (clone_C A l.length c l w hr (by omega)).mono ?_
 rintro e w' ⟨v', rfl, ho, hB⟩
 exact ⟨v', rfl, Kd.R_of_own (by simpa [nums, encs] using ho) (fun _ _ => trivial), hB⟩
end Go.Proofs.Ytfnophaiamkmpaa.Print
