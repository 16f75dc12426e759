/- The call of mapmakerref05.With at a list that is only read: the list itself, or a new one. -/
import Derived.Test.YtcfeehaoeaoegaaHXShort
import Derived.Test.YtcfeehaoeaoegaaHSets
import Derived.Test.YtcfeehaoeaoegaaHP37r
import Derived.Test.YtcfeehaoeaoegaaHXMap
namespace Go.Proofs.Ytcfeehaoeaoegaa.Print
open Go.RowKit Go.Proofs.YtcfeehaoeaoegaaW.PrintWords Go.Proofs.YtcfeehaoeaoegaaW.PrintLast Go.Proofs.YtcfeehaoeaoegaaW.PrintMore
set_option linter.unusedVariables false
set_option linter.unusedSimpArgs false

theorem ins_split {x : Int} : ∀ {l : List Int} {j : Nat}, Inc l → ¬ x ∈ l → j ≤ l.length → (∀ i, i < j → l.getD i 0 < x) → (j = l.length ∨ ¬ l.getD j 0 < x) → l.take j ++ x :: l.drop j = ins x l
  | [], j, _, _, hj, _, _ => by
    have : j = 0 := by simpa using hj
    subst this
    rfl
  | y :: t, 0, hi, hx, _, _, hs => by
    have h1 : ¬ y < x := by
      rcases hs with hs | hs
      · simp at hs
      · simpa using hs
    have h2 : ¬ y = x := fun e => hx (by rw [e]; simp)
    unfold ins
    rw [if_neg h1, if_neg h2]
    rfl
  | y :: t, j + 1, hi, hx, hj, hb, hs => by
    have h1 : y < x := by simpa using hb 0 (by omega)
    unfold ins
    rw [if_pos h1, ← ins_split (l := t) (j := j) (List.pairwise_cons.1 hi).2 (fun h => hx (by simp [h])) (by simp at hj; omega) (fun i h => by simpa using hb (i + 1) (by omega)) (by
      rcases hs with hs | hs
      · left
        simp at hs
        omega
      · right
        simpa using hs)]
    rfl
theorem take_getD_succ {l : List Int} {j : Nat} (h : j < l.length) : l.take (j + 1) = l.take j ++ [l.getD j 0] := by
  rw [List.take_add_one]
  simp [h]
theorem drop_take_succ {l : List Int} {j d : Nat} (h : j + d < l.length) : (l.drop j).take (d + 1) = (l.drop j).take d ++ [l.getD (j + d) 0] := by
  rw [take_getD_succ (by rw [List.length_drop]; omega)]
  simp [List.getD_eq_getElem?_getD, List.getElem?_drop]
set_option maxHeartbeats 3200000 in
set_option maxRecDepth 100000 in
theorem With_read {w : World} {base : Nat} {A : Option Addr} {c : Nat} {l : List Int} (x : Int) (hr : Kd.R (Kd.int .i64) 3 w base (fun _ => True) (.slice A l.length c) l) (hi : Inc l) (hl : l.length ≤ 1000000) (hbase : base ≤ w.heap.size) :
    Calls Try.prog 57 #[.slice A l.length c, .int .i64 x] w fun e w' => ∃ v : Value, e = .returned v ∧ Kd.R (Kd.int .i64) 3 w' base (fun _ => True) v (ins x l) ∧ Below w.heap.size w w' := by
  have hC := (Kd.R_reads' hr).2
  obtain ⟨kh, hkh⟩ := mapmakerref05_Has.ev l x (by omega)
  have HKH := Aside0.mk (hkh kh (Nat.le_refl _))
  have HR := Aside0.mk hr
  have HC := Aside0.mk hC.2
  have HCC := Aside0.mk hC.1
  have HI := Aside0.mk hi
  clear hr hC hkh hi
  go_enter Try.func57, Try.ntmps57
  go_wp2_with (fail)
  refine (mapmakerref05_Has.calls kh A c l x (decide (x ∈ l)) _ HC.out HCC.out HKH.out).mono ?_
  rintro e w1 ⟨rfl, hd1⟩
  have HB1 : Aside0 (Below w.heap.size w w1) := ⟨hd1.below⟩
  clear hd1
  by_cases hx : x ∈ l
  · have HX := Aside0.mk (ins_of_mem HI.out hx)
    rw [decide_eq_true hx]
    go_wp2
    go_ret
    exact ⟨_, rfl, by rw [HX.out]; exact Kd.R_below HR.out HB1.out, HB1.out⟩
  · rw [decide_eq_false hx]
    have HX := Aside0.mk hx
    clear hx HKH
    go_wp2_with (fail)
    go_loopw [5, 6] (fun o i wr => ∃ j : Nat, i = .int .i64 j ∧ j ≤ l.length ∧ Aside0 (Below w.heap.size w wr) ∧ Aside0 (Kd.R (Kd.int .i64) 3 wr w.heap.size (fun _ => True) o (l.take j)) ∧ Aside0 (∀ i, i < j → l.getD i 0 < x)) (fun _ i _ => l.length - (intOf i).toNat)
    case atStart => exact ⟨0, rfl, Nat.zero_le _, HB1, ⟨by rw [List.take_zero]; exact Kd.R_nil _ _ _ _ _⟩, ⟨fun i hi => absurd hi (Nat.not_lt_zero _)⟩⟩
    case round =>
      clear HB1
      obtain ⟨j, rfl, hj, HB, HO, HLT⟩ := hrel
      obtain ⟨A5, c5, rfl⟩ := Kd.R_slice HO.out
      by_cases hlt : j < l.length
      · rcases cells_of_C (Kd.C_below HC.out HB.out) with ⟨h0, _⟩ | ⟨_, br, orr, rfl, hce⟩
        · omega
        have hcx := hce j hlt
        have HTS := Aside0.mk (take_getD_succ hlt)
        have HGX : ∃ v, Aside0 (l.getD j 0 = v) := ⟨_, ⟨rfl⟩⟩
        obtain ⟨v, HGX⟩ := HGX
        rw [HGX.out] at hcx HTS
        clear hce
        by_cases hvx : v < x
        · have hol : (l.take j).length ≤ 1000000 := by rw [List.length_take]; omega
          have HLT2 : Aside0 (∀ i, i < j + 1 → l.getD i 0 < x) := ⟨fun i hi => by
            by_cases e : i = j
            · rw [e, HGX.out]; exact hvx
            · exact HLT.out i (by omega)⟩
          generalize l.take j = O at HTS HO hol ⊢
          go_wp2_with (
            refine Kd.R_append (Kd.int .i64) (w0 := w) w.heap.size (by rfl) (.tmp 23) (.tmp 28) 25 3 (.int .i64 0) 8 rfl Try.underlying25 info3 rfl (by decide) (by omega) (.slice A5 O.length c5) O v [.int .i64 v] (fun _ => True) (fun _ => False) rfl rfl ?aP (fun _ hk => hk.elim) ?aF ?aO ?aB ?aS ?aL ?_
            (case aP => exact rfl)
            (case aF => exact (fun _ _ => trivial))
            (case aO => exact Kd.R_mono HO.out (fun _ _ => trivial))
            (case aB => exact HB.out)
            (case aS => exact HB.out.size)
            (case aL => omega)
            intro v9 w9 ho hb hg hat
            have HO9 := Aside0.mk ho
            have HB9 := Aside0.mk hb
            clear ho hb hg hat)
          go_roundw
          case rel => exact ⟨j + 1, by go_num, by omega, HB9, by rw [HTS.out]; exact HO9, HLT2⟩
          case measure => simp [intOf]; omega
        · have HSP : Aside0 (∀ d, d = 0 → l.take j ++ x :: l.drop j = ins x l) := ⟨fun _ _ => ins_split HI.out HX.out hj HLT.out (.inr (by rw [HGX.out]; exact hvx))⟩
          clear HTS HGX HLT
          have hol : (l.take j).length ≤ 1000000 := by rw [List.length_take]; omega
          obtain ⟨O, HOE⟩ : ∃ O, Aside0 (l.take j = O) := ⟨_, ⟨rfl⟩⟩
          rw [HOE.out] at HO hol HSP
          have htl : (l.take j).length = O.length := by rw [HOE.out]
          rw [htl]
          go_wp2_with (
            refine Kd.R_append (Kd.int .i64) (w0 := w) w.heap.size (by rfl) (.tmp 32) (.tmp 34) 25 3 (.int .i64 0) 8 rfl Try.underlying25 info3 rfl (by decide) (by omega) (.slice A5 O.length c5) O x [.int .i64 x] (fun _ => True) (fun _ => False) rfl rfl ?aP (fun _ hk => hk.elim) ?aF ?aO ?aB ?aS ?aL ?_
            (case aP => exact rfl)
            (case aF => exact (fun _ _ => trivial))
            (case aO => exact Kd.R_mono HO.out (fun _ _ => trivial))
            (case aB => exact HB.out)
            (case aS => exact HB.out.size)
            (case aL => omega)
            intro v9 w9 ho hb hg hat
            have HO9 := Aside0.mk ho
            have HB9 := Aside0.mk hb
            clear ho hb hg hat)
          clear HB HO hcx
          obtain ⟨wo, hwo⟩ : ∃ q, q = wr := ⟨_, rfl⟩
          go_loopw [5, 6] (fun o i wq => ∃ d : Nat, i = .int .i64 ((j + d : Nat) : Int) ∧ j + d ≤ l.length ∧ Aside0 (Below w.heap.size w wq) ∧ Aside0 (Kd.R (Kd.int .i64) 3 wq w.heap.size (fun _ => True) o (O ++ x :: (l.drop j).take d))) (fun _ i _ => l.length - (intOf i).toNat)
          case atStart => exact ⟨0, by first | rfl | (rw [Nat.add_zero, hje]), hj, HB9, HO9⟩
          case round =>
            clear HB9 HO9
            obtain ⟨d, rfl, hjd, HB, HO⟩ := hrel
            obtain ⟨A5, c5, rfl⟩ := Kd.R_slice HO.out
            by_cases hlt2 : j + d < l.length
            · rcases cells_of_C (Kd.C_below HC.out HB.out) with ⟨h0, _⟩ | ⟨_, bq, oq, hAe, hce⟩
              · omega
              first | subst hAe | (injection hAe with e1; injection e1 with e1 e2 _; subst e1 e2)
              have hcx := hce (j + d) hlt2
              have HTS := Aside0.mk (drop_take_succ hlt2)
              have HGX : ∃ v, Aside0 (l.getD (j + d) 0 = v) := ⟨_, ⟨rfl⟩⟩
              obtain ⟨v, HGX⟩ := HGX
              rw [HGX.out] at hcx HTS
              clear hce
              have HOP : Aside0 (O ++ x :: (l.drop j).take (d + 1) = (O ++ x :: (l.drop j).take d) ++ [v]) := ⟨by rw [HTS.out]; simp⟩
              have hol2 : (O ++ x :: (l.drop j).take d).length ≤ 2000001 := by
                rw [List.length_append, List.length_cons, List.length_take]
                omega
              generalize O ++ x :: (l.drop j).take d = O2 at HO HOP hol2 ⊢
              generalize hjdq : j + d = q at hcx hlt2 hjd ⊢
              go_wp2_with (
                refine Kd.R_append (Kd.int .i64) (w0 := w) w.heap.size (by rfl) (.tmp 40) (.tmp 45) 25 3 (.int .i64 0) 8 rfl Try.underlying25 info3 rfl (by decide) (by omega) (.slice A5 O2.length c5) O2 v [.int .i64 v] (fun _ => True) (fun _ => False) rfl rfl ?aP (fun _ hk => hk.elim) ?aF ?aO ?aB ?aS ?aL ?_
                (case aP => exact rfl)
                (case aF => exact (fun _ _ => trivial))
                (case aO => exact Kd.R_mono HO.out (fun _ _ => trivial))
                (case aB => exact HB.out)
                (case aS => exact HB.out.size)
                (case aL => omega)
                intro v9 w9 ho hb hg hat
                have HO9 := Aside0.mk ho
                have HB9 := Aside0.mk hb
                clear ho hb hg hat)
              go_roundw
              case rel => exact ⟨d + 1, by go_num, by omega, HB9, by rw [HOP.out]; exact HO9⟩
              case measure => simp [intOf]; omega
            · have hte : (l.drop j).take d = l.drop j := List.take_of_length_le (by rw [List.length_drop]; omega)
              have HFIN := Aside0.mk (HSP.out 0 rfl)
              rw [hte] at HO ⊢
              generalize O ++ x :: l.drop j = O2 at HO HFIN ⊢
              generalize hjdq : j + d = q at hlt2 hjd ⊢
              go_wp2
              go_ret
              exact ⟨_, rfl, by rw [← HFIN.out]; exact Kd.R_lower HO.out hbase, HB.out⟩
      · have hje : j = l.length := by omega
        have HSP : Aside0 (∀ d, d = 0 → l.take j ++ x :: l.drop j = ins x l) := ⟨fun _ _ => ins_split HI.out HX.out hj HLT.out (.inl hje)⟩
        clear HLT
        obtain ⟨hcx, v, hvx⟩ : ∃ (_ : True), ∃ v : Int, True := ⟨trivial, 0, trivial⟩
        have hol : (l.take j).length ≤ 1000000 := by rw [List.length_take]; omega
        obtain ⟨O, HOE⟩ : ∃ O, Aside0 (l.take j = O) := ⟨_, ⟨rfl⟩⟩
        rw [HOE.out] at HO hol HSP
        have htl : (l.take j).length = O.length := by rw [HOE.out]
        rw [htl]
        go_wp2_with (
          refine Kd.R_append (Kd.int .i64) (w0 := w) w.heap.size (by rfl) (.tmp 32) (.tmp 34) 25 3 (.int .i64 0) 8 rfl Try.underlying25 info3 rfl (by decide) (by omega) (.slice A5 O.length c5) O x [.int .i64 x] (fun _ => True) (fun _ => False) rfl rfl ?aP (fun _ hk => hk.elim) ?aF ?aO ?aB ?aS ?aL ?_
          (case aP => exact rfl)
          (case aF => exact (fun _ _ => trivial))
          (case aO => exact Kd.R_mono HO.out (fun _ _ => trivial))
          (case aB => exact HB.out)
          (case aS => exact HB.out.size)
          (case aL => omega)
          intro v9 w9 ho hb hg hat
          have HO9 := Aside0.mk ho
          have HB9 := Aside0.mk hb
          clear ho hb hg hat)
        clear HB HO hcx
        obtain ⟨wo, hwo⟩ : ∃ q, q = wr := ⟨_, rfl⟩
        go_loopw [5, 6] (fun o i wq => ∃ d : Nat, i = .int .i64 ((j + d : Nat) : Int) ∧ j + d ≤ l.length ∧ Aside0 (Below w.heap.size w wq) ∧ Aside0 (Kd.R (Kd.int .i64) 3 wq w.heap.size (fun _ => True) o (O ++ x :: (l.drop j).take d))) (fun _ i _ => l.length - (intOf i).toNat)
        case atStart => exact ⟨0, by first | rfl | (rw [Nat.add_zero, hje]), hj, HB9, HO9⟩
        case round =>
          clear HB9 HO9
          obtain ⟨d, rfl, hjd, HB, HO⟩ := hrel
          obtain ⟨A5, c5, rfl⟩ := Kd.R_slice HO.out
          by_cases hlt2 : j + d < l.length
          · omega
          · have hte : (l.drop j).take d = l.drop j := List.take_of_length_le (by rw [List.length_drop]; omega)
            have HFIN := Aside0.mk (HSP.out 0 rfl)
            rw [hte] at HO ⊢
            generalize O ++ x :: l.drop j = O2 at HO HFIN ⊢
            generalize hjdq : j + d = q at hlt2 hjd ⊢
            go_wp2
            go_ret
            exact ⟨_, rfl, by rw [← HFIN.out]; exact Kd.R_lower HO.out hbase, HB.out⟩
end Go.Proofs.Ytcfeehaoeaoegaa.Print
