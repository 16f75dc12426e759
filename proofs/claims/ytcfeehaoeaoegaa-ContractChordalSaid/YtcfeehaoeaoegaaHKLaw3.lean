/- ContractChordal: if two edges lead up from a vertex, there is an edge between their upper ends, and every upper end is on the chain of parents. Printed by a program. -/
import Derived.Test.YtcfeehaoeaoegaaHKPlainF
import Derived.Test.YtcfeehaoeaoegaaHKLives
namespace Go.Proofs.Ytcfeehaoeaoegaa.Print
open Go.RowKit Go.Proofs.YtcfeehaoeaoegaaW.PrintWords Go.Proofs.YtcfeehaoeaoegaaW.PrintLast Go.Proofs.YtcfeehaoeaoegaaW.PrintMore
set_option linter.unusedVariables false
set_option linter.unusedSimpArgs false
def slen : Value → Nat
  | .slice _ n _ => n
  | _ => 0
/-- The upper end of an edge. -/
theorem arc_f1 {w : World} {A : Option Addr} {n : Nat} {xs : List S38} (h : Kd.C k38 w A n xs) {i : Nat} (hi : i < xs.length) : ∃ b o, A = some ⟨b, o, none⟩ ∧ w.cell? ⟨b, o + i * 2 + 1, none⟩ = some (.int .i64 (xs.getD i z38).f1) := by
  obtain ⟨ad, hA, h2⟩ := h.2.2 (by have := h.1; omega)
  have h3 : ∀ j, j < xs.length → ∀ u q, [Value.int .i64 (xs.getD j z38).f0, .int .i64 (xs.getD j z38).f1][q]? = some u → w.cell? (ad.add (j * 2 + q)) = some u := fun j hj u q hu => by
    obtain ⟨c, hl, hK, hc⟩ := h2 j (xs.getD j z38) (by rw [List.getD_eq_getElem?_getD, List.getElem?_eq_getElem hj]; rfl)
    obtain rfl := k38_open hK
    exact hc q u hu
  have h4 := spot_of_cell (h3 0 (by omega) _ 0 rfl)
  refine ⟨ad.block, ad.off, by rw [hA]; exact congrArg some h4, ?_⟩
  have h5 := h3 i hi _ 1 rfl
  rw [h4, Addr.add_lit] at h5
  exact h5
theorem curP_pre {n : Nat} {S : HSt} {v : Int} {k : Nat} (h : 0 ≤ curP n S v (k + 1)) : 0 ≤ curP n S v k := by
  have h1 : 0 ≤ parentS n S (curP n S v k) := h
  unfold parentS at h1
  split at h1
  · rename_i hc
    obtain ⟨q, _, hq⟩ := hasV_iff.1 hc.1
    omega
  · omega
def mapmakerlaw40_ContractChordal.f (a0_0 : Int) (l0_1 : List S38) (l1 : List Int)  : Option Bool := some true
set_option maxHeartbeats 6400000 in
set_option maxRecDepth 100000 in
theorem mapmakerlaw40_ContractChordal.calls (a0_0 : Int) (A0_1 : Option Addr) (c0_1 : Nat) (l0_1 : List S38) (A1 : Option Addr) (c1 : Nat) (l1 : List Int)  (r : Bool) (w : World) (hr0_1 : Kd.C k38 w A0_1 l0_1.length l0_1) (hc0_1 : l0_1.length ≤ c0_1)
    (hr1 : Kd.C (Kd.int .i64) w A1 l1.length l1) (hc1 : l1.length ≤ c1) (h : mapmakerlaw40_ContractChordal.f a0_0 l0_1 l1  = some r) :
    Calls Try.prog 5 #[.agg #[.int .i64 a0_0, .slice A0_1 l0_1.length c0_1], .slice A1 l1.length c1] w fun e w' => e = .returned (.bool r) ∧ Below w.heap.size w w' := by
  injection h with h
  subst h
  have HG := Aside0.mk hr0_1
  have HL := Aside0.mk hr1
  have HGC := Aside0.mk hc0_1
  have HLC := Aside0.mk hc1
  clear hr0_1 hr1 hc0_1 hc1
  go_enter Try.func5, Try.ntmps5
  go_upto_region 1 with (fail)
  have HBK := Aside0.mk (heap_alloc_new w (Obj.cells #[.int .i64 a0_0, .slice A0_1 l0_1.length c0_1] 24))
  have HBE : Below w.heap.size w (w.alloc (Obj.cells #[.int .i64 a0_0, .slice A0_1 l0_1.length c0_1] 24)) := (Below.refl _ _).alloc (Nat.le_refl _) _
  replace HG := Aside0.mk (Kd.C_below HG.out HBE)
  replace HL := Aside0.mk (Kd.C_below HL.out HBE)
  have HB := Aside0.mk HBE
  generalize w.alloc (Obj.cells #[.int .i64 a0_0, .slice A0_1 l0_1.length c0_1] 24) = w1 at HBK HG HL HB ⊢
  clear HBE
  have hc0 := (blk_cell HBK.out 0).trans rfl
  have hc1 := (blk_cell HBK.out 1).trans rfl
  obtain ⟨fb, hfb, hfw⟩ : ∃ fb, mapmakerlaw40_few.f a0_0 l0_1 l1 = some fb ∧ (fb = true → l0_1.length ≤ 30 ∧ (a0_0 ≤ 10 ∨ a0_0 > 1048576) ∧ l1.length ≤ 20) := by
    unfold mapmakerlaw40_few.f
    by_cases h1 : (l0_1.length : Int) ≤ 30
    · by_cases h2 : a0_0 ≤ 10
      · refine ⟨_, by rw [if_pos h1, if_pos h2], fun h => ?_⟩
        rw [decide_eq_true_eq] at h
        omega
      · by_cases h3 : a0_0 > 1048576
        · refine ⟨_, by rw [if_pos h1, if_neg h2, if_pos h3], fun h => ?_⟩
          rw [decide_eq_true_eq] at h
          omega
        · exact ⟨_, by rw [if_pos h1, if_neg h2, if_neg h3], fun h => by cases h⟩
    · exact ⟨_, by rw [if_neg h1], fun h => by cases h⟩
  have HFB := Aside0.mk hfb
  clear hfb
  go_wp2_with (fail)
  refine (mapmakerlaw40_few.calls a0_0 A0_1 c0_1 l0_1 A1 c1 l1 fb _ HG.out HGC.out HL.out HLC.out HFB.out).mono ?_
  rintro e w2 ⟨rfl, hb2⟩
  replace HBK := Aside0.mk (blk_below HBK.out hb2)
  replace HG := Aside0.mk (Kd.C_below HG.out hb2)
  replace HL := Aside0.mk (Kd.C_below HL.out hb2)
  replace HB := Aside0.mk (below_more HB.out (Nat.le_refl _) hb2)
  clear hb2 hc0 hc1 HFB
  cases fb with
  | false =>
    clear hfw
    go_wp2_with (fail)
    refine (mapmakerlaw40_lives.calls _).mono ?_
    rintro e w3 ⟨rfl, hb3⟩
    replace HB := Aside0.mk (below_more HB.out (Nat.le_refl _) hb3)
    clear hb3
    go_wp2
    go_ret
    exact ⟨rfl, HB.out⟩
  | true =>
  obtain ⟨hf1, hf2, hf3⟩ := hfw rfl
  have hN3 : a0_0 ≤ 1000 ∨ a0_0 > 1048576 := by omega
  have hA3 : l0_1.length ≤ 1000000 := by omega
  have hL3 : l1.length ≤ 1000000 := by omega
  clear hfw
  have hc0 := (blk_cell HBK.out 0).trans rfl
  have hc1 := (blk_cell HBK.out 1).trans rfl
  · go_wp2_with (fail)
    refine (contract_New.calls HG.out HGC.out HL.out HLC.out hN3 hA3 hL3).mono ?_
    rintro e w4 ⟨hb4, (⟨hne, rfl⟩ | ⟨hne, p, rfl, hH⟩)⟩
    · replace HBK := Aside0.mk (blk_below HBK.out hb4)
      replace HG := Aside0.mk (Kd.C_below HG.out hb4)
      replace HL := Aside0.mk (Kd.C_below HL.out hb4)
      replace HB := Aside0.mk (below_more HB.out (Nat.le_refl _) hb4)
      clear hb4 hc0 hc1
      have HNE := Aside0.mk hne
      clear hne
      generalize newErr a0_0 l0_1 l1 = er at HNE ⊢
      have hne : ¬ er = 0 := HNE.out
      go_wp2_with (fail)
      refine (mapmakerlaw40_lives.calls _).mono ?_
      rintro e w6 ⟨rfl, hb6⟩
      replace HB := Aside0.mk (below_more HB.out (Nat.le_refl _) hb6)
      clear hb6
      go_wp2
      go_ret
      exact ⟨rfl, HB.out⟩
    · replace HBK := Aside0.mk (blk_below HBK.out hb4)
      replace HG := Aside0.mk (Kd.C_below HG.out hb4)
      replace HL := Aside0.mk (Kd.C_below HL.out hb4)
      replace HB := Aside0.mk (below_more HB.out (Nat.le_refl _) hb4)
      clear hb4 hc0 hc1
      have hchk : chk a0_0 l0_1 = 0 := by
        unfold newErr at hne
        split at hne
        · contradiction
        · rename_i hh; exact Classical.not_not.1 hh
      have hord : ordGo a0_0 l1.length [] l1 = 0 := by
        unfold newErr at hne
        rw [if_neg (fun h => h hchk)] at hne
        exact hne
      obtain ⟨hN0, hN1, _⟩ := chk_ok hchk
      obtain ⟨n, rfl⟩ := Int.eq_ofNat_of_zero_le hN0
      have hn : n ≤ 10 := by omega
      have hk : Hk n l0_1 l1 := ⟨hchk, by have := isOrd_of hN0 hord; rw [Int.toNat_natCast] at this; exact this⟩
      have HK := Aside0.mk hk
      have HH := Aside0.mk (show HierOf w4 p n l0_1 l1 by rw [Int.toNat_natCast] at hH; exact hH)
      clear hchk hord hN0 hN1 hk hH hne
      go_wp2_with (fail)
      refine (Hier_Edges.calls HH.out (by have := HK.out.short (by omega); omega)).mono ?_
      rintro e wE ⟨v, rfl, hr, hb⟩
      obtain ⟨Ae, ce, rfl⟩ := Kd.R_slice hr
      have hCx := Kd.R_reads' hr
      have HE := Aside0.mk hCx.2.2
      replace HBK := Aside0.mk (blk_below HBK.out hb)
      replace HH := Aside0.mk (HH.out.below hb)
      replace HB := Aside0.mk (below_more HB.out (Nat.le_refl _) hb)
      clear hb hr hCx HG HL HGC HLC
      have HEL := Aside0.mk (HK.out.short (by omega))
      obtain ⟨ES, HES⟩ : ∃ ES, Aside0 ((hierS n l0_1 l1).edges = ES) := ⟨_, ⟨rfl⟩⟩
      rw [HES.out] at HE HEL
      rw [HES.out]
      go_wp2_with (fail)
      go_loopw [8] (fun i wr => ∃ v : Nat, i = .int .i64 (v : Int) ∧ v ≤ n ∧ Aside0 (Below wE.heap.size wE wr)) (fun i _ => n - (intOf i).toNat)
      case atStart => exact ⟨0, rfl, Nat.zero_le _, ⟨Below.refl _ _⟩⟩
      case round =>
        obtain ⟨v, rfl, hv, HB2⟩ := hrel
        have hc0 := (blk_cell (blk_below HBK.out HB2.out) 0).trans rfl
        by_cases hvn : v < n
        · obtain ⟨x, hx, hrx, hLx⟩ := at_rank HK.out.ord hvn
          have HLX := Aside0.mk hLx
          have HUP := Aside0.mk (HK.out.up (v : Int))
          have hcapu := HK.out.capu (by omega) v
          rw [HES.out] at HUP
          clear hrx hLx
          go_wp2_with (fail)
          refine (Hier_Up.calls (HH.out.below HB2.out) HK.out.ok (v : Int) (by rw [Int.toNat_natCast]; exact hcapu)).mono ?_
          rintro e w5 ⟨u5, rfl, hr5, hb5⟩
          rw [HUP.out] at hr5
          obtain ⟨Au, cu, rfl⟩ := Kd.R_slice hr5
          have HU := Aside0.mk (Kd.R_reads' hr5).2.2
          have HUC := Aside0.mk (Kd.R_reads' hr5).2.1
          have HB5 := Aside0.mk (below_more HB2.out (Nat.le_refl _) hb5)
          clear hr5 hb5 hcapu hc0 HUP HB2
          obtain ⟨up, HUPE⟩ : ∃ up, Aside0 (upIx ES (v : Int) = up) := ⟨_, ⟨rfl⟩⟩
          rw [HUPE.out] at HU HUC
          rw [HUPE.out]
          have hupl : up.length ≤ 1000000 := by
            have h1 := upIx_len ES (v : Int)
            rw [HUPE.out] at h1
            have := HEL.out
            omega
          go_wp2_with (fail)
          refine (Hier_Parent.calls (HH.out.below HB5.out) HK.out.ok (v : Int)).mono ?_
          rintro e w6 ⟨rfl, hb6⟩
          have HU6 := Aside0.mk (Kd.C_below HU.out hb6)
          have HB6 := Aside0.mk (below_more HB5.out (Nat.le_refl _) hb6)
          have HB6x := HB6
          clear hb6 HU HB5
          obtain ⟨wo, hwo⟩ : ∃ q, q = wr := ⟨_, rfl⟩
          subst hwo
          have HP1 : Aside0 (parentS n (hierS n l0_1 l1) (v : Int) = curP n (hierS n l0_1 l1) (v : Int) 1) := ⟨rfl⟩
          rw [HP1.out]
          go_wp2_with (fail)
          go_loopw [10, 11] (fun o q wr => ∃ c : Nat, q = .int .i64 (curP n (hierS n l0_1 l1) (v : Int) (c + 1)) ∧ c ≤ n ∧ Aside0 (Below w6.heap.size w6 wr) ∧ Aside0 (Kd.R (Kd.int .i64) 3 wr w6.heap.size (fun _ => True) o (chainP n (hierS n l0_1 l1) (v : Int) c)) ∧ Aside0 (c = 0 ∨ 0 ≤ curP n (hierS n l0_1 l1) (v : Int) 1)) (fun o _ _ => n + 1 - slen o)
          case atStart => exact ⟨0, rfl, Nat.zero_le _, ⟨Below.refl _ _⟩, ⟨Kd.R_nil _ _ _ _ _⟩, ⟨.inl rfl⟩⟩
          case round =>
            obtain ⟨c, rfl, hcn, HB7, HO, HC0⟩ := hrel
            obtain ⟨Ao, co, rfl⟩ := Kd.R_slice HO.out
            have hc0 := (blk_cell (blk_below HBK.out (below_more HB6.out (Nat.le_refl _) HB7.out)) 0).trans rfl
            have hchl : (chainP n (hierS n l0_1 l1) (v : Int) c).length = c := by unfold chainP; simp
            have HCS := Aside0.mk (chainP_succ n (hierS n l0_1 l1) (v : Int) c)
            have HCN : Aside0 (0 ≤ curP n (hierS n l0_1 l1) (v : Int) (c + 1) → c + 1 < n) := ⟨fun hh => by
              apply Classical.byContradiction
              intro hge
              have h1 := HK.out.cur_neg hx (k := c + 1) (by omega)
              rw [HLX.out] at h1
              omega⟩
            have HNP : Aside0 (parentS n (hierS n l0_1 l1) (curP n (hierS n l0_1 l1) (v : Int) (c + 1)) = curP n (hierS n l0_1 l1) (v : Int) (c + 1 + 1)) := ⟨rfl⟩
            have HNU : Aside0 (upIx ES (v : Int) = [] ↔ curP n (hierS n l0_1 l1) (v : Int) 1 < 0) := ⟨by
              have := HK.out.none_up hx
              rw [HLX.out, HES.out] at this
              exact this⟩
            have HON : Aside0 (curP n (hierS n l0_1 l1) (v : Int) (c + 1) < 0 → ∀ s : Nat, (s : Int) ∈ plS l1 (hk0 n l1 (nbRows n l0_1)) x → l1.getD s 0 ∈ chainP n (hierS n l0_1 l1) (v : Int) c) := ⟨fun hh s hs => by
              have h1 := HK.out.on_chain hx hs (c := c) (by rw [HLX.out]; exact hh)
              rw [HLX.out] at h1
              exact h1⟩
            have HC1 : Aside0 (c = 0 → chainP n (hierS n l0_1 l1) (v : Int) c = []) := ⟨fun hh => by subst hh; rfl⟩
            obtain ⟨cq, HCQ⟩ : ∃ cq, Aside0 (curP n (hierS n l0_1 l1) (v : Int) (c + 1) = cq) := ⟨_, ⟨rfl⟩⟩
            rw [HCQ.out] at HCS HCN HNP HON
            rw [HCQ.out]
            generalize chainP n (hierS n l0_1 l1) (v : Int) c = ch at HO HCS HON hchl HC1 ⊢
            rw [hchl]
            rw [hchl] at HO
            by_cases hq : 0 ≤ cq
            · have hc1 := HCN.out hq
              have hle : decide ((c : Int) ≤ (n : Int)) = true := decide_eq_true (by omega)
              go_wp2_with (
                refine Kd.R_append (Kd.int .i64) (w0 := w6) w6.heap.size (by rfl) (.tmp 58) (.tmp 60) 25 3 (.int .i64 0) 8 rfl Try.underlying25 info3 rfl (by decide) (by omega) (.slice Ao c co) ch cq [.int .i64 cq] (fun _ => True) (fun _ => False) rfl rfl ?aP (fun _ hk => hk.elim) ?aF ?aO ?aB ?aS ?aL ?_
                (case aP => exact rfl)
                (case aF => exact (fun _ _ => trivial))
                (case aO => exact Kd.R_mono HO.out (fun _ _ => trivial))
                (case aB => exact HB7.out)
                (case aS => exact HB7.out.size)
                (case aL => omega)
                intro v9 w9 ho hb hg hat
                have HO9 := Aside0.mk ho
                have HB9 := Aside0.mk hb
                clear ho hb hg hat hc0)
              obtain ⟨A9, c9, rfl⟩ := Kd.R_slice HO9.out
              refine (Hier_Parent.calls (HH.out.below (below_more HB6x.out (Nat.le_refl _) HB9.out)) HK.out.ok cq).mono ?_
              rintro e w10 ⟨rfl, hb10⟩
              have HO10 := Aside0.mk (Kd.R_below HO9.out hb10)
              have HB10 := Aside0.mk (below_more HB9.out (Nat.le_refl _) hb10)
              rw [HNP.out]
              clear hb10 HO9 HB9 HO HB7
              go_wp2
              go_roundw
              case rel => exact ⟨c + 1, rfl, by omega, HB10, ⟨by have h9 := HO10.out; rw [show (ch ++ [cq]).length = c + 1 by simp [hchl]] at h9; rw [HCS.out]; exact h9⟩, ⟨.inr (by rcases HC0.out with h0 | h0; (·subst h0; rw [HCQ.out]; exact hq); (·exact h0))⟩⟩
              case measure =>
                have hl : (ch ++ [cq]).length = c + 1 := by simp [hchl]
                simp [slen, hchl]
                omega
            · have hq2 : ¬ cq ≥ 0 := hq
              subst hchl
              have HU7 := Aside0.mk (Kd.C_below HU6.out HB7.out)
              have HCH := Aside0.mk (Kd.R_reads' HO.out).2
              have HB7w := Aside0.mk (below_more HB6x.out (Nat.le_refl _) HB7.out)
              have HON2 := Aside0.mk (HON.out (by omega))
              have hupc : up.length = 0 ↔ ch.length = 0 := by
                rw [HUPE.out] at HNU
                rw [List.length_eq_zero_iff, HNU.out]
                rcases HC0.out with h0 | h0
                · have hq1 : curP n (hierS n l0_1 l1) (v : Int) 1 = cq := by
                    have := HCQ.out
                    rw [h0] at this
                    exact this
                  rw [hq1]
                  constructor
                  · exact fun _ => h0
                  · exact fun _ => by omega
                · constructor
                  · intro h1
                    omega
                  · intro h1
                    have hq1 : curP n (hierS n l0_1 l1) (v : Int) 1 = cq := by
                      have := HCQ.out
                      rw [h1] at this
                      exact this
                    rw [hq1] at h0
                    omega
              have HUC := Aside0.mk hupc
              clear hupc HON HNU HCN HCS HNP HU6 HO HB7 HC0 HC1
              obtain ⟨wo2, hwo2⟩ : ∃ q, q = wr := ⟨_, rfl⟩
              subst hwo2
              go_wp2_with (fail)
              go_loopw [12] (fun q wr => ∃ i : Nat, q = .int .i64 (i : Int) ∧ i ≤ up.length ∧ Aside0 (Below wo2.heap.size wo2 wr)) (fun q _ => up.length - (intOf q).toNat)
              case atStart => exact ⟨0, rfl, Nat.zero_le _, ⟨Below.refl _ _⟩⟩
              case round =>
                obtain ⟨i, rfl, hi, HBi⟩ := hrel
                by_cases hiu : i < up.length
                · have hme : up.getD i 0 ∈ upIx (hierS n l0_1 l1).edges (l1.getD x 0) := by rw [HLX.out, HES.out, HUPE.out]; exact mem_getD hiu
                  obtain ⟨ei, s, h1, h2, h3, h4, h5, _⟩ := HK.out.up_edge hx hme
                  rw [HES.out] at h2 h4
                  have HEI := Aside0.mk h1
                  have HFI := Aside0.mk h4
                  rcases cells_of_C (Kd.C_below HU7.out HBi.out) with ⟨h0, _⟩ | ⟨_, bu, ou, hAu, hce⟩
                  · omega
                  first | subst hAu | (injection hAu with e1; injection e1 with e1 e2 _; subst e1 e2)
                  have hci := hce i hiu
                  rw [h1] at hci
                  have HCE := Aside0.mk (Kd.C_below HE.out (below_more HB7w.out (Nat.le_refl _) HBi.out))
                  obtain ⟨be, oe, hAe, hei⟩ := arc_f1 HCE.out h2
                  first | subst hAe | (injection hAe with e1; injection e1 with e1 e2 _; subst e1 e2)
                  obtain ⟨fi, hfi⟩ : ∃ fi, l1.getD s 0 = fi := ⟨_, rfl⟩
                  rw [h4, hfi] at hei
                  rw [hfi] at HFI
                  have hin : fi ∈ ch := by rw [← hfi]; exact HON2.out s h5
                  obtain ⟨kh, hkh⟩ := mapmakerref05_Has.ev ch fi (by omega)
                  have HKH : Aside0 (mapmakerref05_Has.f kh ch fi = some true) := ⟨(hkh kh (Nat.le_refl _)).trans (by rw [decide_eq_true hin])⟩
                  have hz1 : decide ((ei : Int) < 0) = false := by simp
                  have hz2 : decide ((ei : Int) ≥ (ES.length : Int)) = false := by simp; omega
                  have hz3 : (ei : Int) < (ES.length : Int) := by omega
                  clear hce hkh hin h1 h3 h4 h5 hme hfi
                  go_wp2_with (fail)
                  refine (mapmakerref05_Has.calls kh Ao co ch fi true _ (Kd.C_below HCH.out.2 HBi.out) HCH.out.1 HKH.out).mono ?_
                  rintro e w7 ⟨rfl, hd7⟩
                  have HB7i := Aside0.mk (below_more HBi.out (Nat.le_refl _) hd7.below)
                  clear hd7 hci hei HCE HBi HKH
                  obtain ⟨wo3, hwo3⟩ : ∃ q, q = wr := ⟨_, rfl⟩
                  subst hwo3
                  go_wp2_with (fail)
                  go_loopw [13] (fun q wr => ∃ k : Nat, q = .int .i64 (k : Int) ∧ k ≤ i ∧ Aside0 (Below wo2.heap.size wo2 wr)) (fun q _ => i - (intOf q).toNat)
                  case atStart => exact ⟨0, rfl, Nat.zero_le _, HB7i⟩
                  case round =>
                    clear HB7i
                    obtain ⟨k, rfl, hk, HB8w⟩ := hrel
                    by_cases hki : k < i
                    · have hku : k < up.length := by omega
                      have hmk : up.getD k 0 ∈ upIx (hierS n l0_1 l1).edges (l1.getD x 0) := by rw [HLX.out, HES.out, HUPE.out]; exact mem_getD hku
                      obtain ⟨ek, t, h1, g2, _, _, _, _⟩ := HK.out.up_edge hx hmk
                      rw [HES.out] at g2
                      have htw := HK.out.two_up hx (i := i) (k := k) (by rw [HLX.out, HES.out, HUPE.out]; exact hiu) hki
                      rw [HLX.out, HES.out, HUPE.out, HEI.out, h1, Int.toNat_natCast, Int.toNat_natCast, HFI.out] at htw
                      rcases cells_of_C (Kd.C_below HU7.out HB8w.out) with ⟨h0, _⟩ | ⟨_, bq, oq, hAu, hce⟩
                      · omega
                      injection hAu with e1
                      injection e1 with e1 e2 _
                      subst e1 e2
                      have hci := hce i hiu
                      have hck := hce k hku
                      rw [HEI.out] at hci
                      rw [h1] at hck
                      have HB8 := Aside0.mk (below_more HB7w.out (Nat.le_refl _) HB8w.out)
                      have HCE := Aside0.mk (Kd.C_below HE.out HB8.out)
                      obtain ⟨bq, oq, hAe, hei⟩ := arc_f1 HCE.out h2
                      injection hAe with e1
                      injection e1 with e1 e2 _
                      subst e1 e2
                      obtain ⟨bq, oq, hAe, hek⟩ := arc_f1 HCE.out g2
                      injection hAe with e1
                      injection e1 with e1 e2 _
                      subst e1 e2
                      rw [HFI.out] at hei
                      obtain ⟨fk, hfk⟩ : ∃ fk, (ES.getD ek z38).f1 = fk := ⟨_, rfl⟩
                      rw [hfk] at hek htw
                      obtain ⟨ff, HFF⟩ : ∃ ff, Aside0 (findS n (ranksTo l1 l1.length) (hierS n l0_1 l1) fi fk = (ff, true)) := ⟨_, ⟨Prod.ext rfl htw⟩⟩
                      have hz4 : (ek : Int) < (ES.length : Int) := by omega
                      clear hce htw h1 hmk HCE hfk
                      go_upto_region 26 with (fail)
                      refine start_ (n := 23) (S := fun w' => w'.cell? ⟨bu, ou + i, none⟩ = some (.int .i64 (ei : Int)) ∧ w'.cell? ⟨bu, ou + k, none⟩ = some (.int .i64 (ek : Int)) ∧ w'.cell? ⟨be, oe + ei * 2 + 1, none⟩ = some (.int .i64 fi) ∧ w'.cell? ⟨be, oe + ek * 2 + 1, none⟩ = some (.int .i64 fk)) (ds := []) #[yF,yF,yF,yF,yF,yF,yF,yF,yF,yF,yF,yF,yF,yF,yF,yF,yF,yF,yF,yF,yF,yF,yF] (by kernel_rfl) rfl rfl ⟨hci, hck, hei, hek⟩ (fun hHeld => ?_)
                      have HB9 := Aside0.mk (below_drew HB8w.out)
                      have HBE := Aside0.mk (below_drew HB8.out)
                      clear hci hck hei hek
                      generalize wr.drew = we at HB9 HBE hHeld ⊢
                      refine pure_ (i := 0) (N := some 101) (v := ?_) (a' := ?_) #[yT,yF,yF,yF,yF,yF,yF,yF,yF,yF,yF,yF,yF,yF,yF,yF,yF,yF,yF,yF,yF,yF,yF] rfl rfl (by kernel_rfl) (fun _ _ _ h => h) (Or.inl ⟨by rfl, ?_⟩) ?_ ?_; rotate_left; (·intro w'; go_simp; with_reducible rfl); rotate_left; (·simp only [putW]; rfl)
                      refine pure_ (i := 1) (N := some 102) (v := ?_) (a' := ?_) #[yT,yT,yF,yF,yF,yF,yF,yF,yF,yF,yF,yF,yF,yF,yF,yF,yF,yF,yF,yF,yF,yF,yF] rfl rfl (by kernel_rfl) (fun _ _ _ h => h) (Or.inl ⟨by rfl, ?_⟩) ?_ ?_; rotate_left; (·intro w'; go_simp; with_reducible rfl); rotate_left; (·simp only [putW]; rfl)
                      refine pure_ (i := 2) (N := some 103) (v := ?_) (a' := ?_) #[yT,yT,yT,yF,yF,yF,yF,yF,yF,yF,yF,yF,yF,yF,yF,yF,yF,yF,yF,yF,yF,yF,yF] rfl rfl (by kernel_rfl) (fun _ _ _ h => h) (Or.inl ⟨by rfl, ?_⟩) ?_ ?_; rotate_left; (·intro w'; go_simp; with_reducible rfl); rotate_left; (·simp only [putW]; rfl)
                      refine pure_ (i := 3) (N := some 104) (v := ?_) (a' := ?_) #[yT,yT,yT,yT,yF,yF,yF,yF,yF,yF,yF,yF,yF,yF,yF,yF,yF,yF,yF,yF,yF,yF,yF] rfl rfl (by kernel_rfl) (fun _ _ _ h => h) (Or.inl ⟨by rfl, ?_⟩) ?_ ?_; rotate_left; (·intro w'; go_simp; with_reducible rfl); rotate_left; (·simp only [putW]; rfl)
                      refine pure_ (i := 4) (N := some 105) (v := ?_) (a' := ?_) #[yT,yT,yT,yT,yT,yF,yF,yF,yF,yF,yF,yF,yF,yF,yF,yF,yF,yF,yF,yF,yF,yF,yF] rfl rfl (by kernel_rfl) (fun _ _ _ h => h) (Or.inl ⟨by rfl, ?_⟩) ?_ ?_; rotate_left; (·intro w'; go_simp; with_reducible rfl); rotate_left; (·simp only [putW]; rfl)
                      refine take_ (i := 5) (N := some 106) (v := ?_) (a' := ?_) #[yT,yT,yT,yT,yT,yT,yF,yF,yF,yF,yF,yF,yF,yF,yF,yF,yF,yF,yF,yF,yF,yF,yF] rfl rfl (by kernel_rfl) (fun _ _ _ h => h) (Or.inl ⟨by rfl, ?_⟩) hHeld ?_ ?_; rotate_left; (·rintro w' ⟨s0, s1, s2, s3⟩; go_simp; with_reducible rfl); rotate_left; (·simp only [putW]; rfl)
                      refine pure_ (i := 6) (N := some 107) (v := ?_) (a' := ?_) #[yT,yT,yT,yT,yT,yT,yT,yF,yF,yF,yF,yF,yF,yF,yF,yF,yF,yF,yF,yF,yF,yF,yF] rfl rfl (by kernel_rfl) (fun _ _ _ h => h) (Or.inl ⟨by rfl, ?_⟩) ?_ ?_; rotate_left; (·intro w'; go_simp; with_reducible rfl); rotate_left; (·simp only [putW]; rfl)
                      refine pure_ (i := 7) (N := some 108) (v := ?_) (a' := ?_) #[yT,yT,yT,yT,yT,yT,yT,yT,yF,yF,yF,yF,yF,yF,yF,yF,yF,yF,yF,yF,yF,yF,yF] rfl rfl (by kernel_rfl) (fun _ _ _ h => h) (Or.inl ⟨by rfl, ?_⟩) ?_ ?_; rotate_left; (·intro w'; go_simp; with_reducible rfl); rotate_left; (·simp only [putW]; rfl)
                      refine take_ (i := 8) (N := some 109) (v := ?_) (a' := ?_) #[yT,yT,yT,yT,yT,yT,yT,yT,yT,yF,yF,yF,yF,yF,yF,yF,yF,yF,yF,yF,yF,yF,yF] rfl rfl (by kernel_rfl) (fun _ _ _ h => h) (Or.inl ⟨by rfl, ?_⟩) hHeld ?_ ?_; rotate_left; (·rintro w' ⟨s0, s1, s2, s3⟩; go_simp; with_reducible rfl); rotate_left; (·simp only [putW]; rfl)
                      refine pure_ (i := 9) (N := some 110) (v := ?_) (a' := ?_) #[yT,yT,yT,yT,yT,yT,yT,yT,yT,yT,yF,yF,yF,yF,yF,yF,yF,yF,yF,yF,yF,yF,yF] rfl rfl (by kernel_rfl) (fun _ _ _ h => h) (Or.inl ⟨by rfl, ?_⟩) ?_ ?_; rotate_left; (·intro w'; go_simp; with_reducible rfl); rotate_left; (·simp only [putW]; rfl)
                      refine pure_ (i := 10) (N := some 111) (v := ?_) (a' := ?_) #[yT,yT,yT,yT,yT,yT,yT,yT,yT,yT,yT,yF,yF,yF,yF,yF,yF,yF,yF,yF,yF,yF,yF] rfl rfl (by kernel_rfl) (fun _ _ _ h => h) (Or.inl ⟨by rfl, ?_⟩) ?_ ?_; rotate_left; (·intro w'; go_simp; with_reducible rfl); rotate_left; (·simp only [putW]; rfl)
                      refine pure_ (i := 11) (N := some 112) (v := ?_) (a' := ?_) #[yT,yT,yT,yT,yT,yT,yT,yT,yT,yT,yT,yT,yF,yF,yF,yF,yF,yF,yF,yF,yF,yF,yF] rfl rfl (by kernel_rfl) (fun _ _ _ h => h) (Or.inl ⟨by rfl, ?_⟩) ?_ ?_; rotate_left; (·intro w'; go_simp; with_reducible rfl); rotate_left; (·simp only [putW]; rfl)
                      refine pure_ (i := 12) (N := some 113) (v := ?_) (a' := ?_) #[yT,yT,yT,yT,yT,yT,yT,yT,yT,yT,yT,yT,yT,yF,yF,yF,yF,yF,yF,yF,yF,yF,yF] rfl rfl (by kernel_rfl) (fun _ _ _ h => h) (Or.inl ⟨by rfl, ?_⟩) ?_ ?_; rotate_left; (·intro w'; go_simp; with_reducible rfl); rotate_left; (·simp only [putW]; rfl)
                      refine take_ (i := 13) (N := some 114) (v := ?_) (a' := ?_) #[yT,yT,yT,yT,yT,yT,yT,yT,yT,yT,yT,yT,yT,yT,yF,yF,yF,yF,yF,yF,yF,yF,yF] rfl rfl (by kernel_rfl) (fun _ _ _ h => h) (Or.inl ⟨by rfl, ?_⟩) hHeld ?_ ?_; rotate_left; (·rintro w' ⟨s0, s1, s2, s3⟩; go_simp; with_reducible rfl); rotate_left; (·simp only [putW]; rfl)
                      refine pure_ (i := 14) (N := some 115) (v := ?_) (a' := ?_) #[yT,yT,yT,yT,yT,yT,yT,yT,yT,yT,yT,yT,yT,yT,yT,yF,yF,yF,yF,yF,yF,yF,yF] rfl rfl (by kernel_rfl) (fun _ _ _ h => h) (Or.inl ⟨by rfl, ?_⟩) ?_ ?_; rotate_left; (·intro w'; go_simp; with_reducible rfl); rotate_left; (·simp only [putW]; rfl)
                      refine pure_ (i := 15) (N := some 116) (v := ?_) (a' := ?_) #[yT,yT,yT,yT,yT,yT,yT,yT,yT,yT,yT,yT,yT,yT,yT,yT,yF,yF,yF,yF,yF,yF,yF] rfl rfl (by kernel_rfl) (fun _ _ _ h => h) (Or.inl ⟨by rfl, ?_⟩) ?_ ?_; rotate_left; (·intro w'; go_simp; with_reducible rfl); rotate_left; (·simp only [putW]; rfl)
                      refine take_ (i := 16) (N := some 117) (v := ?_) (a' := ?_) #[yT,yT,yT,yT,yT,yT,yT,yT,yT,yT,yT,yT,yT,yT,yT,yT,yT,yF,yF,yF,yF,yF,yF] rfl rfl (by kernel_rfl) (fun _ _ _ h => h) (Or.inl ⟨by rfl, ?_⟩) hHeld ?_ ?_; rotate_left; (·rintro w' ⟨s0, s1, s2, s3⟩; go_simp; with_reducible rfl); rotate_left; (·simp only [putW]; rfl)
                      refine one_ (i := 17) (N := some 118) #[yT,yT,yT,yT,yT,yT,yT,yT,yT,yT,yT,yT,yT,yT,yT,yT,yT,yT,yF,yF,yF,yF,yF] rfl rfl (by kernel_rfl) (by decide) (fun K hK => ?_)
                      refine goes_ Try.func17 (by kernel_rfl) rfl #[.pointer (some ⟨p, 0, none⟩), .int .i64 fi, .int .i64 fk] (by rfl) rfl rfl byL ?_
                      refine (Hier_Find.calls (HH.out.below HBE.out) HK.out.lenR fi fk).mono ?_
                      rintro e wN ⟨he, hb⟩
                      rw [HFF.out] at he
                      subst he
                      replace HB9 := Aside0.mk (below_more HB9.out (Nat.le_refl _) hb)
                      refine ⟨_, rfl, ?_⟩
                      refine hK.out _ _ ⟨pw_cell_below hb hHeld.1, pw_cell_below hb hHeld.2.1, pw_cell_below hb hHeld.2.2.1, pw_cell_below hb hHeld.2.2.2⟩ (fun hHeld => ?_)
                      clear hK K
                      refine norm_ (a' := ?_) ?_ ?_; rotate_left; (·show Act.put _ (some 118) _ = _; simp only [putW]; rfl)
                      clear hb
                      refine pure_ (i := 18) (N := some 100) (v := ?_) (a' := ?_) #[yT,yT,yT,yT,yT,yT,yT,yT,yT,yT,yT,yT,yT,yT,yT,yT,yT,yT,yT,yF,yF,yF,yF] rfl rfl (by kernel_rfl) (fun _ _ _ h => h) (Or.inl ⟨by rfl, ?_⟩) ?_ ?_; rotate_left; (·intro w'; go_simp; with_reducible rfl); rotate_left; (·simp only [putW]; rfl)
                      refine pure_ (i := 19) (N := some 119) (v := ?_) (a' := ?_) #[yT,yT,yT,yT,yT,yT,yT,yT,yT,yT,yT,yT,yT,yT,yT,yT,yT,yT,yT,yT,yF,yF,yF] rfl rfl (by kernel_rfl) (fun _ _ _ h => h) (Or.inl ⟨by rfl, ?_⟩) ?_ ?_; rotate_left; (·intro w'; go_simp; with_reducible rfl); rotate_left; (·simp only [putW]; rfl)
                      refine pure_ (i := 20) (N := some 120) (v := ?_) (a' := ?_) #[yT,yT,yT,yT,yT,yT,yT,yT,yT,yT,yT,yT,yT,yT,yT,yT,yT,yT,yT,yT,yT,yF,yF] rfl rfl (by kernel_rfl) (fun _ _ _ h => h) (Or.inl ⟨by rfl, ?_⟩) ?_ ?_; rotate_left; (·intro w'; go_simp; with_reducible rfl); rotate_left; (·simp only [putW]; rfl)
                      refine pure_ (i := 21) (N := some 14) (v := ?_) (a' := ?_) #[yT,yT,yT,yT,yT,yT,yT,yT,yT,yT,yT,yT,yT,yT,yT,yT,yT,yT,yT,yT,yT,yT,yF] rfl rfl (by kernel_rfl) (fun _ _ _ h => h) (Or.inl ⟨by rfl, ?_⟩) ?_ ?_; rotate_left; (·intro w'; go_simp; with_reducible rfl); rotate_left; (·simp only [putW]; rfl)
                      refine pure_ (i := 22) (N := some 15) (v := ?_) (a' := ?_) #[yT,yT,yT,yT,yT,yT,yT,yT,yT,yT,yT,yT,yT,yT,yT,yT,yT,yT,yT,yT,yT,yT,yT] rfl rfl (by kernel_rfl) (fun _ _ _ h => h) (Or.inl ⟨by rfl, ?_⟩) ?_ ?_; rotate_left; (·intro w'; go_simp; with_reducible rfl); rotate_left; (·simp only [putW]; rfl)
                      refine done_ (by kernel_rfl) ?_
                      clear hHeld
                      go_wp2
                      go_roundw
                      case rel => exact ⟨k + 1, by go_num, by omega, HB9⟩
                      case measure => simp [intOf]; omega
                    · have hke : k = i := by omega
                      subst hke
                      go_wp2
                      go_roundw
                      case rel => exact ⟨k + 1, by go_num, by omega, HB8w⟩
                      case measure => simp [intOf]; omega
                · have hie : i = up.length := by omega
                  have HBv := Aside0.mk (below_more HB7w.out (Nat.le_refl _) HBi.out)
                  have hc0 := (blk_cell (blk_below HBK.out HBv.out) 0).trans rfl
                  have hgt : decide ((ch.length : Int) > (n : Int)) = false := by simp; omega
                  by_cases hcz : ch.length = 0
                  · have hu0 := HUC.out.2 hcz
                    rw [hcz]
                    rw [hu0]
                    rw [hu0] at hie
                    go_wp2
                    go_roundw
                    case rel => exact ⟨v + 1, by go_num, by omega, HBv⟩
                    case measure => simp [intOf]; omega
                  · have hu0 : ¬ up.length = 0 := fun hh => hcz (HUC.out.1 hh)
                    have hu1 : ((up.length : Int) == 0) = false := beq_eq_false_iff_ne.2 (by omega)
                    have hc2 : ((ch.length : Int) == 0) = false := beq_eq_false_iff_ne.2 (by omega)
                    go_wp2
                    go_roundw
                    case rel => exact ⟨v + 1, by go_num, by omega, HBv⟩
                    case measure => simp [intOf]; omega
        · have hve : v = n := by omega
          go_wp2_with (fail)
          refine (mapmakerlaw40_lives.calls _).mono ?_
          rintro e w7 ⟨rfl, hb7⟩
          have HBF := Aside0.mk (below_more HB.out (Nat.le_refl _) (below_more HB2.out (Nat.le_refl _) hb7))
          clear hb7
          go_wp2
          go_ret
          exact ⟨rfl, HBF.out⟩
end Go.Proofs.Ytcfeehaoeaoegaa.Print
