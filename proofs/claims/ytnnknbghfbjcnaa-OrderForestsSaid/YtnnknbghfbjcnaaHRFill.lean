/- The call of the reference's Fill. -/
import Derived.Test.YtnnknbghfbjcnaaHRTab
import Derived.Test.YtnnknbghfbjcnaaHRStart
import Derived.Test.YtnnknbghfbjcnaaHROrd
import Derived.Test.YtnnknbghfbjcnaaHOFill
namespace Go.Proofs.Ytnnknbghfbjcnaa.Print
open Go.RowKit Go.Proofs.YtnnknbghfbjcnaaW.PrintWords Go.Proofs.YtnnknbghfbjcnaaW.PrintLast Go.Proofs.YtnnknbghfbjcnaaW.PrintMore
set_option linter.unusedVariables false
set_option linter.unusedSimpArgs false

def rfillGo (n : Nat) : List Int → Mat → (Nat → Bool) → Int → Int
  | [], _, _, f => f
  | v :: r, M, g, f => rfillGo n r (tElim M g v.toNat n).1 (gset g v.toNat) (wrap64 (f + (tElim M g v.toNat n).2))
def rfillS (N : Int) (l : List S40) (L : List Int) : Int := if chk N l = 0 ∧ ordGo N L.length [] L = 0 then rfillGo N.toNat L (stM l l.length) (fun _ => false) 0 else -1
def mapmakerref39_Fill.f (a0 : Int) (l : List S40) (L : List Int) : Option Int := if l.length < 100000000000 ∧ a0 ≤ 20000 ∧ L.length < 1000000000000 then some (rfillS a0 l L) else none

set_option maxHeartbeats 3200000 in
set_option maxRecDepth 100000 in
theorem mapmakerref39_Fill.calls (a0_0 : Int) (A0_1 : Option Addr) (c0_1 : Nat) (l0_1 : List S40) (A1 : Option Addr) (c1 : Nat) (l1 : List Int) (r : Int) (w : World) (hr0_1 : Kd.C k40 w A0_1 l0_1.length l0_1) (hc0_1 : l0_1.length ≤ c0_1)
    (hr1 : Kd.C (Kd.int .i64) w A1 l1.length l1) (hc1 : l1.length ≤ c1) (h : mapmakerref39_Fill.f a0_0 l0_1 l1 = some r) :
    Calls Try.prog 40 #[.agg #[.int .i64 a0_0, .slice A0_1 l0_1.length c0_1], .slice A1 l1.length c1] w fun e w' => e = .returned (.int .i64 r) ∧ Below w.heap.size w w' := by
  unfold mapmakerref39_Fill.f at h
  split at h
  · rename_i hl
    obtain rfl := Option.some.inj h
    have HC0 := Aside0.mk hr0_1
    have HL1 := Aside0.mk hr1
    obtain ⟨kc, hkc⟩ := mapmakerref37_Check.ev a0_0 l0_1 (by omega)
    obtain ⟨ko, hko⟩ := mapmakerref39_Check.ev a0_0 l1 hl.2.2
    have HFC := Aside0.mk (hkc kc (Nat.le_refl _))
    have HCO := Aside0.mk (hko ko (Nat.le_refl _))
    clear h hkc hko hr0_1 hr1
    by_cases hc : chk a0_0 l0_1 = 0
    · by_cases ho : ordGo a0_0 l1.length [] l1 = 0
      · have HCK := Aside0.mk hc
        have HOK := Aside0.mk ho
        obtain ⟨hn0, hn1, _⟩ := chk_ok hc
        have hms : rfillS a0_0 l0_1 l1 = rfillGo a0_0.toNat l1 (stM l0_1 l0_1.length) (fun _ => false) 0 := if_pos ⟨hc, ho⟩
        rw [hc] at HFC
        rw [ho] at HCO
        rw [hms]
        obtain ⟨n, rfl⟩ := Int.eq_ofNat_of_zero_le hn0
        rw [Int.toNat_natCast]
        clear hc hms hn0 hn1 ho
        have hn2 : n ≤ 20000 := by omega
        have hl2 : l0_1.length < 100000000000 := hl.1
        have hl3 : l1.length < 1000000000000 := hl.2.2
        go_enter Try.func40, Try.ntmps40
        go_wp2_with (
          refine goesL_ (some 9) rfl rfl Try.func23 (by kernel_rfl) rfl #[.agg #[.int .i64 (n : Int), .slice A0_1 l0_1.length c0_1]] rfl byL ?_
          refine (mapmakerref37_Check.calls kc (n : Int) A0_1 c0_1 l0_1 0 _ (Kd.C_alloc HC0.out _) hc0_1 HFC.out).mono ?_
          rintro e w1 ⟨rfl, hb⟩
          refine ⟨_, rfl, ?_⟩
          have HB1 := Aside0.mk (below_step (below_alloc (Below.refl w.heap.size w) _) hb)
          have HBK := Aside0.mk (blk_below (g := w.heap.size) (o := .cells #[.int .i64 (n : Int), .slice A0_1 l0_1.length c0_1] 24 (0, 0)) (heap_alloc_new w _) hb)
          have HC1 := Aside0.mk (Kd.C_below (Kd.C_alloc HC0.out _) hb)
          have HL2 := Aside0.mk (Kd.C_below (Kd.C_alloc HL1.out _) hb)
          have hbk0 := (blk_cell HBK.out 0).trans rfl
          have hbk1 := (blk_cell HBK.out 1).trans rfl
          clear hb)
        refine (mapmakerref39_Check.calls ko (n : Int) A1 c1 l1 0 w1 HL2.out hc1 HCO.out).mono ?_
        rintro e w1b ⟨rfl, hb1⟩
        replace hb1 := hb1.below
        have HB1b := Aside0.mk (below_step HB1.out hb1)
        have HBKb := Aside0.mk (blk_below HBK.out hb1)
        have HC1b := Aside0.mk (Kd.C_below HC1.out hb1)
        have hbk2 := pw_cell_below hb1 hbk0
        have hbk3 := pw_cell_below hb1 hbk1
        clear hbk0 hbk1 hb1
        go_wp2_with (fail)
        refine (Start.calls n A0_1 c0_1 l0_1 _ HC1b.out hc0_1 hn2 hl2 HCK.out).mono ?_
        rintro e w2 ⟨hb2, hcase⟩
        have HB2 := Aside0.mk (below_step HB1b.out hb2)
        have HBK2 := Aside0.mk (blk_below HBKb.out hb2)
        have HW1 := Aside0.mk (sb_lt HBKb.out)
        clear hbk2 hbk3 hb2
        rcases hcase with ⟨rfl, vv, rfl⟩ | ⟨R, cap, Gb, rb, rfl, hcap, htb⟩
        · have hl0 : l1 = [] := by
            cases hl1 : l1 with
            | nil => rfl
            | cons x q =>
              have h1 := HOK.out
              rw [hl1] at h1
              have := ordGo_cons h1
              omega
          subst hl0
          go_wp2
          go_loopw [6, 7] (fun o i wr => o = .int .i64 0 ∧ i = .int .i64 0 ∧ Aside0 (Below w.heap.size w wr)) (fun _ _ _ => 0)
          case atStart => exact ⟨rfl, rfl, ⟨HB2.out.alloc HB2.out.size _⟩⟩
          case round =>
            obtain ⟨rfl, rfl, HB⟩ := hrel
            go_wp2
            go_ret
            exact ⟨rfl, HB.out⟩
        · have HT2 := Aside0.mk htb
          clear htb
          unfold tabV
          have HBA : Aside0 (Below w.heap.size w (w2.alloc (.cells #[.slice (some ⟨R, 0, none⟩) n cap, .slice (some ⟨Gb, 0, none⟩) n n] 58 (0, 0)))) := ⟨HB2.out.alloc HB2.out.size _⟩
          have HTA : Aside0 (TbIs (w2.alloc (.cells #[.slice (some ⟨R, 0, none⟩) n cap, .slice (some ⟨Gb, 0, none⟩) n n] 58 (0, 0))) w1b.heap.size R rb Gb n (stM l0_1 l0_1.length) (fun _ => false)) := ⟨HT2.out.below ((Below.refl _ _).alloc (Nat.le_refl _) _)⟩
          have HKA : Aside0 ((w2.alloc (.cells #[.slice (some ⟨R, 0, none⟩) n cap, .slice (some ⟨Gb, 0, none⟩) n n] 58 (0, 0))).heap[w2.heap.size]? = some (.cells #[.slice (some ⟨R, 0, none⟩) n cap, .slice (some ⟨Gb, 0, none⟩) n n] 58 (0, 0))) := ⟨heap_alloc_new w2 _⟩
          have HNT : Aside0 (¬ TbT Gb rb n w2.heap.size ∧ w.heap.size < w2.heap.size) := ⟨⟨fun h => by
            rcases h with e | ⟨i, hi, e⟩
            · have := HT2.out.top.2
              omega
            · have := HT2.out.tops i hi
              omega, sb_lt HBK2.out⟩⟩
          go_wp2
          generalize w2.alloc (.cells #[.slice (some ⟨R, 0, none⟩) n cap, .slice (some ⟨Gb, 0, none⟩) n n] 58 (0, 0)) = w3 at HBA HTA HKA ⊢
          have hbase : w.heap.size < w1b.heap.size := HW1.out
          generalize w1b.heap.size = base at HTA hbase
          generalize w2.heap.size = tb at HKA HNT ⊢
          clear HT2 HB1 HBK HC1 HB2 HBK2 HC1b HBKb HB1b HL2
          go_loopw [6, 7] (fun f i wr => ∃ (k : Nat) (M : Mat) (g : Nat → Bool) (fk : Int), i = .int .i64 k ∧ f = .int .i64 fk ∧ k ≤ l1.length ∧ Aside0 (rfillGo n (l1.drop k) M g fk = rfillGo n l1 (stM l0_1 l0_1.length) (fun _ => false) 0) ∧ Aside0 (ordGo n l1.length (l1.take k).reverse (l1.drop k) = 0) ∧ Aside0 (TbIs wr base R rb Gb n M g) ∧
            Aside0 (wr.heap[tb]? = some (.cells #[.slice (some ⟨R, 0, none⟩) n cap, .slice (some ⟨Gb, 0, none⟩) n n] 58 (0, 0))) ∧ Aside0 (Below w.heap.size w wr)) (fun _ i _ => l1.length - (intOf i).toNat)
          case atStart => exact ⟨0, _, _, 0, rfl, rfl, Nat.zero_le _, ⟨rfl⟩, HOK, HTA, HKA, HBA⟩
          case round =>
            clear HTA HKA HBA
            obtain ⟨k, M, g, fk, rfl, rfl, hk, HF, HR, HT, HK, HB⟩ := hrel
            by_cases hlt : k < l1.length
            · rcases cells_of_C HL1.out with ⟨h0, _⟩ | ⟨h0, b1, o1, rfl, hce⟩
              · omega
              · have hcw := hce k hlt
                have hdrop : l1.drop k = l1.getD k 0 :: l1.drop (k + 1) := by rw [List.drop_eq_getElem_cons hlt]; simp [List.getElem?_eq_getElem hlt]
                have htake : l1.take (k + 1) = l1.take k ++ [l1.getD k 0] := by rw [List.take_succ_eq_append_getElem hlt]; simp [List.getElem?_eq_getElem hlt]
                have HF1 := HF.out
                have HR1 := HR.out
                rw [hdrop] at HF1 HR1
                obtain ⟨hv0, hv1, hv2, hv3⟩ := ordGo_cons HR1
                obtain ⟨b, hb⟩ := Int.eq_ofNat_of_zero_le hv0
                rw [hb] at hcw HF1 hv1 hv2 hv3 htake
                have hbn : b < n := by omega
                have HF2 := Aside0.mk (show rfillGo n (l1.drop (k + 1)) (tElim M g b n).1 (gset g b) (wrap64 (fk + (tElim M g b n).2)) = rfillGo n l1 (stM l0_1 l0_1.length) (fun _ => false) 0 from HF1)
                have HR2 : Aside0 (ordGo n l1.length (l1.take (k + 1)).reverse (l1.drop (k + 1)) = 0) := ⟨by rw [htake, List.reverse_append]; exact hv3⟩
                have HCW := Aside0.mk hcw
                have hcell := (HB.out.cell (World.block_lt_of_cell? w _ hcw)).trans hcw
                have hct0 := (blk_cell HK.out 0).trans rfl
                have hct1 := (blk_cell HK.out 1).trans rfl
                clear hdrop htake HF1 HR1 hv0 hv1 hv2 hv3 hb hce hcw
                go_upto_region 8 with (fail)
                refine start_ (n := 9) (S := fun w' => w'.cell? ⟨tb, 0, none⟩ = some (.slice (some ⟨R, 0, none⟩) n cap) ∧ w'.cell? ⟨tb, 1, none⟩ = some (.slice (some ⟨Gb, 0, none⟩) n n) ∧ w'.cell? ⟨b1, o1 + k, none⟩ = some (.int .i64 (b : Int))) (ds := []) #[yF,yF,yF,yF,yF,yF,yF,yF,yF] (by kernel_rfl) rfl rfl ⟨hct0, hct1, hcell⟩ (fun hHeld => ?_)
                have HT5 := Aside0.mk (HT.out.drew)
                have HB5 := Aside0.mk (below_drew HB.out)
                have HK5 : Aside0 (wr.drew.heap[tb]? = some (.cells #[.slice (some ⟨R, 0, none⟩) n cap, .slice (some ⟨Gb, 0, none⟩) n n] 58 (0, 0))) := ⟨HK.out⟩
                generalize wr.drew = wd at HT5 HB5 HK5 hHeld ⊢
                refine pure_ (i := 0) (N := some 26) (v := ?_) (a' := ?_) #[yT,yF,yF,yF,yF,yF,yF,yF,yF] rfl rfl (by kernel_rfl) (fun _ _ _ h => h) (Or.inl ⟨by rfl, ?_⟩) ?_ ?_; rotate_left; (·intro w'; go_simp; with_reducible rfl); rotate_left; (·simp only [putW]; rfl)
                refine take_ (i := 1) (N := some 27) (v := ?_) (a' := ?_) #[yT,yT,yF,yF,yF,yF,yF,yF,yF] rfl rfl (by kernel_rfl) (fun _ _ _ h => h) (Or.inl ⟨by rfl, ?_⟩) hHeld ?_ ?_; rotate_left; (·rintro w' ⟨s0, s1, s2⟩; go_simp; with_reducible rfl); rotate_left; (·simp only [putW]; rfl)
                refine pure_ (i := 2) (N := some 28) (v := ?_) (a' := ?_) #[yT,yT,yT,yF,yF,yF,yF,yF,yF] rfl rfl (by kernel_rfl) (fun _ _ _ h => h) (Or.inl ⟨by rfl, ?_⟩) ?_ ?_; rotate_left; (·intro w'; go_simp; with_reducible rfl); rotate_left; (·simp only [putW]; rfl)
                refine pure_ (i := 3) (N := some 29) (v := ?_) (a' := ?_) #[yT,yT,yT,yT,yF,yF,yF,yF,yF] rfl rfl (by kernel_rfl) (fun _ _ _ h => h) (Or.inl ⟨by rfl, ?_⟩) ?_ ?_; rotate_left; (·intro w'; go_simp; with_reducible rfl); rotate_left; (·simp only [putW]; rfl)
                refine pure_ (i := 4) (N := some 30) (v := ?_) (a' := ?_) #[yT,yT,yT,yT,yT,yF,yF,yF,yF] rfl rfl (by kernel_rfl) (fun _ _ _ h => h) (Or.inl ⟨by rfl, ?_⟩) ?_ ?_; rotate_left; (·intro w'; go_simp; with_reducible rfl); rotate_left; (·simp only [putW]; rfl)
                refine take_ (i := 5) (N := some 31) (v := ?_) (a' := ?_) #[yT,yT,yT,yT,yT,yT,yF,yF,yF] rfl rfl (by kernel_rfl) (fun _ _ _ h => h) (Or.inl ⟨by rfl, ?_⟩) hHeld ?_ ?_; rotate_left; (·rintro w' ⟨s0, s1, s2⟩; go_simp; with_reducible rfl); rotate_left; (·simp only [putW]; rfl)
                refine one_ (i := 6) (N := some 32) #[yT,yT,yT,yT,yT,yT,yT,yF,yF] rfl rfl (by kernel_rfl) (by decide) (fun K hK => ?_)
                refine goes_ Try.func49 (by kernel_rfl) rfl #[tabV R cap Gb n, .int .i64 (b : Int)] (by rfl) rfl rfl byL ?_
                refine (Eliminate.calls base R cap Gb n rb M g b wd HT5.out hbn hn2 hcap).mono ?_
                rintro e w5 ⟨rfl, hT6, hE6⟩
                refine ⟨_, rfl, ?_⟩
                have HT6 := Aside0.mk hT6
                have HK6 : Aside0 (w5.heap[tb]? = some (.cells #[.slice (some ⟨R, 0, none⟩) n cap, .slice (some ⟨Gb, 0, none⟩) n n] 58 (0, 0))) := ⟨(hE6.block _ (sb_lt HK5.out) HNT.out.1).trans HK5.out⟩
                have HB6 : Aside0 (Below w.heap.size w w5) := ⟨HB5.out.trans (hE6.out HB5.out.size (fun q hT => by
                  rcases hT with rfl | ⟨i, hi, rfl⟩
                  · have := HT5.out.lo
                    omega
                  · have := HT5.out.los i hi
                    omega))⟩
                have hS6 : w5.cell? ⟨b1, o1 + k, none⟩ = some (.int .i64 (b : Int)) := (HB6.out.cell (World.block_lt_of_cell? w _ HCW.out)).trans HCW.out
                refine hK.out _ _ ⟨(blk_cell HK6.out 0).trans rfl, (blk_cell HK6.out 1).trans rfl, hS6⟩ (fun hHeld => ?_)
                clear hK K hT6 hE6 hS6
                refine norm_ (a' := ?_) ?_ ?_; rotate_left; (·show Act.put _ (some 32) _ = _; simp only [putW]; rfl)
                refine pure_ (i := 7) (N := some 33) (v := ?_) (a' := ?_) #[yT,yT,yT,yT,yT,yT,yT,yT,yF] rfl rfl (by kernel_rfl) (fun _ _ _ h => h) (Or.inl ⟨by rfl, ?_⟩) ?_ ?_; rotate_left; (·intro w'; go_simp; with_reducible rfl); rotate_left; (·simp only [putW]; rfl)
                refine pure_ (i := 8) (N := some 6) (v := ?_) (a' := ?_) #[yT,yT,yT,yT,yT,yT,yT,yT,yT] rfl rfl (by kernel_rfl) (fun _ _ _ h => h) (Or.inl ⟨by rfl, ?_⟩) ?_ ?_; rotate_left; (·intro w'; go_simp; with_reducible rfl); rotate_left; (·simp only [putW]; rfl)
                refine done_ (by kernel_rfl) ?_
                clear hHeld hct0 hct1 hcell
                go_wp2
                go_roundw
                case rel => exact ⟨k + 1, _, _, _, by go_num, rfl, by omega, HF2, HR2, HT6, HK6, HB6⟩
                case measure => simp [intOf]; omega
            · have hk2 : k = l1.length := by omega
              subst hk2
              have HFI : Aside0 (fk = rfillGo n l1 (stM l0_1 l0_1.length) (fun _ => false) 0) := ⟨by
                have h1 := HF.out
                rwa [List.drop_length] at h1⟩
              go_wp2
              go_ret
              exact ⟨by rw [← HFI.out]; rfl, HB.out⟩
      · have hms : rfillS a0_0 l0_1 l1 = -1 := if_neg (fun h => ho h.2)
        rw [hms]
        rw [hc] at HFC
        have HNO := Aside0.mk ho
        clear hc ho hms
        generalize hcg : ordGo a0_0 l1.length [] l1 = cc at HNO HCO
        have hcc : (decide (cc = 0)) = false := by simpa using HNO.out
        have hcc2 : ¬ cc = 0 := HNO.out
        clear hcg
        go_enter Try.func40, Try.ntmps40
        go_wp2_with (
          refine goesL_ (some 9) rfl rfl Try.func23 (by kernel_rfl) rfl #[.agg #[.int .i64 a0_0, .slice A0_1 l0_1.length c0_1]] rfl byL ?_
          refine (mapmakerref37_Check.calls kc a0_0 A0_1 c0_1 l0_1 0 _ (Kd.C_alloc HC0.out _) hc0_1 HFC.out).mono ?_
          rintro e w1 ⟨rfl, hb⟩
          refine ⟨_, rfl, ?_⟩
          have HB1 := Aside0.mk (below_step (below_alloc (Below.refl w.heap.size w) _) hb)
          have HBK := Aside0.mk (blk_below (g := w.heap.size) (o := .cells #[.int .i64 a0_0, .slice A0_1 l0_1.length c0_1] 24 (0, 0)) (heap_alloc_new w _) hb)
          have HL2 := Aside0.mk (Kd.C_below (Kd.C_alloc HL1.out _) hb)
          have hbk0 := (blk_cell HBK.out 0).trans rfl
          clear hb)
        refine (mapmakerref39_Check.calls ko a0_0 A1 c1 l1 cc w1 HL2.out hc1 HCO.out).mono ?_
        rintro e w2 ⟨rfl, hb2⟩
        replace hb2 := hb2.below
        have HB2 := Aside0.mk (below_step HB1.out hb2)
        clear hbk0 hb2
        go_wp2_with (fail)
        go_ret
        exact ⟨rfl, HB2.out⟩
    · have hms : rfillS a0_0 l0_1 l1 = -1 := if_neg (fun h => hc h.1)
      rw [hms]
      have HNE := Aside0.mk hc
      clear hc hms
      go_enter Try.func40, Try.ntmps40
      generalize hcg : chk a0_0 l0_1 = cc at HNE HFC
      have hcc : (decide (cc = 0)) = false := by simpa using HNE.out
      have hcc2 : ¬ cc = 0 := HNE.out
      clear hcg
      go_wp2_with (
        refine goesL_ (some 9) rfl rfl Try.func23 (by kernel_rfl) rfl #[.agg #[.int .i64 a0_0, .slice A0_1 l0_1.length c0_1]] rfl byL ?_
        refine (mapmakerref37_Check.calls kc a0_0 A0_1 c0_1 l0_1 cc _ (Kd.C_alloc HC0.out _) hc0_1 HFC.out).mono ?_
        rintro e w1 ⟨rfl, hb⟩
        refine ⟨_, rfl, ?_⟩
        have HB1 := Aside0.mk (below_step (below_alloc (Below.refl w.heap.size w) _) hb)
        clear hb)
      go_ret
      exact ⟨rfl, HB1.out⟩
  · cases h
end Go.Proofs.Ytnnknbghfbjcnaa.Print
