/- The call of order.Fill. -/
import Derived.Test.YtnnknbghfbjcnaaHOOf
import Derived.Test.YtnnknbghfbjcnaaHOElim
import Derived.Test.YtnnknbghfbjcnaaHOCheck
namespace Go.Proofs.Ytnnknbghfbjcnaa.Print
open Go.RowKit Go.Proofs.YtnnknbghfbjcnaaW.PrintWords Go.Proofs.YtnnknbghfbjcnaaW.PrintLast Go.Proofs.YtnnknbghfbjcnaaW.PrintMore
set_option linter.unusedVariables false
set_option linter.unusedSimpArgs false

def fillS (N : Int) (l : List S40) (L : List Int) : Int := if chk N l = 0 ∧ ordGo N L.length [] L = 0 then fillGo L (nbsOf (nbRows N.toNat l)) 0 else -1
def order_Fill.f (a0 : Int) (l : List S40) (L : List Int) : Option Int := if l.length < 100000000000 ∧ a0 ≤ 20000 then some (fillS a0 l L) else none
theorem ordGo_cons {n len v : Int} {seen r : List Int} (h : ordGo n len seen (v :: r) = 0) : 0 ≤ v ∧ v < n ∧ ¬ v ∈ seen ∧ ordGo n len (v :: seen) r = 0 := by
  unfold ordGo at h
  split at h
  · omega
  · split at h
    · omega
    · split at h
      · omega
      · rename_i h1 h2 h3
        exact ⟨by omega, by omega, h3, h⟩

theorem ord_all {n len : Int} : ∀ (r seen : List Int), ordGo n len seen r = 0 → (∀ v ∈ r, 0 ≤ v ∧ v < n) ∧ r.Nodup ∧ (∀ v ∈ r, ¬ v ∈ seen) ∧ ¬ len < n
  | [], seen, h => by
    unfold ordGo at h
    split at h
    · omega
    · rename_i hn
      exact ⟨by simp, List.nodup_nil, by simp, hn⟩
  | v :: r, seen, h => by
    obtain ⟨h1, h2, h3, h4⟩ := ordGo_cons h
    obtain ⟨g1, g2, g3, g4⟩ := ord_all r (v :: seen) h4
    refine ⟨fun x hx => ?_, ?_, fun x hx hs => ?_, g4⟩
    · rcases List.mem_cons.1 hx with rfl | hx
      · exact ⟨h1, h2⟩
      · exact g1 x hx
    · rw [List.nodup_cons]
      exact ⟨fun hx => g3 v hx (by simp), g2⟩
    · rcases List.mem_cons.1 hx with rfl | hx
      · exact h3 hs
      · exact g3 x hx (by simp [hs])
theorem ord_of {n len : Int} : ∀ (r seen : List Int), (∀ v ∈ r, 0 ≤ v ∧ v < n) → r.Nodup → (∀ v ∈ r, ¬ v ∈ seen) → ¬ len < n → ordGo n len seen r = 0
  | [], seen, _, _, _, h => by
    unfold ordGo
    rw [if_neg h]
  | v :: r, seen, h1, h2, h3, h4 => by
    rw [List.nodup_cons] at h2
    have hv := h1 v (by simp)
    unfold ordGo
    rw [if_neg (by omega), if_neg (by omega), if_neg (h3 v (by simp))]
    refine ord_of r (v :: seen) (fun x hx => h1 x (by simp [hx])) h2.2 (fun x hx hs => ?_) h4
    rcases List.mem_cons.1 hs with rfl | hs
    · exact h2.1 hx
    · exact h3 x (by simp [hx]) hs

set_option maxHeartbeats 1600000 in
set_option maxRecDepth 100000 in
theorem order_Fill.calls (a0_0 : Int) (A0_1 : Option Addr) (c0_1 : Nat) (l0_1 : List S40) (A1 : Option Addr) (c1 : Nat) (l1 : List Int) (r : Int) (w : World) (hr0_1 : Kd.C k40 w A0_1 l0_1.length l0_1) (hc0_1 : l0_1.length ≤ c0_1)
    (hr1 : Kd.C (Kd.int .i64) w A1 l1.length l1) (hc1 : l1.length ≤ c1) (h : order_Fill.f a0_0 l0_1 l1 = some r) :
    Calls Try.prog 39 #[.agg #[.int .i64 a0_0, .slice A0_1 l0_1.length c0_1], .slice A1 l1.length c1] w fun e w' => e = .returned (.int .i64 r) ∧ Below w.heap.size w w' := by
  unfold order_Fill.f at h
  split at h
  · rename_i hl
    obtain rfl := Option.some.inj h
    have HC0 := Aside0.mk hr0_1
    have HL1 := Aside0.mk hr1
    have hlen1 : l1.length ≤ 9223372036854775807 := hr1.2.1
    obtain ⟨kc, hkc⟩ := graph_Check.ev a0_0 l0_1 (by omega)
    obtain ⟨kn, hkn⟩ := graph_Neighbours.ev a0_0 l0_1 (by omega)
    have HFC := Aside0.mk (hkc kc (Nat.le_refl _))
    have HFN := Aside0.mk (hkn kn (Nat.le_refl _))
    clear h hkc hkn hr0_1 hr1
    by_cases hc : chk a0_0 l0_1 = 0
    · by_cases ho : ordGo a0_0 l1.length [] l1 = 0
      · have HCK := Aside0.mk hc
        have HOK := Aside0.mk ho
        obtain ⟨hn0, hn1, _⟩ := chk_ok hc
        have hne : neighS a0_0 l0_1 = nbRows a0_0.toNat l0_1 := if_pos hc
        have hms : fillS a0_0 l0_1 l1 = fillGo l1 (nbsOf (nbRows a0_0.toNat l0_1)) 0 := if_pos ⟨hc, ho⟩
        rw [hne] at HFN
        rw [hc] at HFC
        rw [hms]
        have HG0 := Aside0.mk (nbs_good hc)
        obtain ⟨n, rfl⟩ := Int.eq_ofNat_of_zero_le hn0
        rw [Int.toNat_natCast] at HFN HG0 ⊢
        have HO0 := Aside0.mk (nbs_outs n l0_1)
        have HL0 := Aside0.mk (nbs_length n l0_1)
        have HRL := Aside0.mk (nbRows_length n l0_1)
        have HCO : Aside0 (order_Check.f (n : Int) l1 = some 0) := ⟨by unfold order_Check.f; rw [HOK.out]⟩
        clear hc hne hms hn0 hn1 ho
        generalize nbRows n l0_1 = rows at HFN HG0 HO0 HL0 HRL
        go_enter Try.func39, Try.ntmps39
        go_wp2_with (first
          | (refine goesL_ (some 10) rfl rfl Try.func22 (by kernel_rfl) rfl #[.agg #[.int .i64 (n : Int), .slice A0_1 l0_1.length c0_1]] rfl byL ?_
             refine (graph_Check.calls kc (n : Int) A0_1 c0_1 l0_1 0 _ (Kd.C_alloc HC0.out _) hc0_1 HFC.out).mono ?_
             rintro e w1 ⟨rfl, hb⟩
             refine ⟨_, rfl, ?_⟩
             have HB1 := Aside0.mk (below_step (below_alloc (Below.refl w.heap.size w) _) hb)
             have HBK := Aside0.mk (blk_below (g := w.heap.size) (o := .cells #[.int .i64 (n : Int), .slice A0_1 l0_1.length c0_1] 24 (0, 0)) (heap_alloc_new w _) hb)
             have HC1 := Aside0.mk (Kd.C_below (Kd.C_alloc HC0.out _) hb)
             have HL2 := Aside0.mk (Kd.C_below (Kd.C_alloc HL1.out _) hb)
             have hbk0 := (blk_cell HBK.out 0).trans rfl
             have hbk1 := (blk_cell HBK.out 1).trans rfl
             clear hb))
        refine (order_Check.calls (n : Int) A1 c1 l1 0 w1 HL2.out hc1 HCO.out).mono ?_
        rintro e w2 ⟨rfl, hb2⟩
        have HB2 := Aside0.mk (below_step HB1.out hb2)
        have HC2 := Aside0.mk (Kd.C_below HC1.out hb2)
        have hbk2 := pw_cell_below hb2 hbk0
        have hbk3 := pw_cell_below hb2 hbk1
        have HS2 := Aside0.mk (Nat.lt_of_lt_of_le (Array.getElem?_eq_some_iff.1 HBK.out).1 hb2.size)
        clear hbk0 hbk1 hb2
        go_wp2_with (fail)
        refine (order_of.calls kn (n : Int) A0_1 c0_1 l0_1 rows _ HC2.out hc0_1 HFN.out (by rw [HRL.out]; omega)).mono ?_
        rintro e w3 ⟨hb3, hcase⟩
        have HB3 := Aside0.mk (below_step HB2.out hb3)
        clear hb3 hbk2 hbk3
        rcases hcase with ⟨hnil, rfl⟩ | ⟨B, cap, bs, rfl, hcap, hnb⟩
        · have hn0 : n = 0 := by rw [← HRL.out, hnil]; rfl
          subst hn0
          have hl0 : l1 = [] := by
            cases hl1 : l1 with
            | nil => rfl
            | cons x q =>
              have h1 := HOK.out
              rw [hl1] at h1
              have := ordGo_cons h1
              omega
          subst hl0
          clear hnil
          go_wp2
          go_loopw [6, 23] (fun o i wr => o = .int .i64 0 ∧ i = .int .i64 0 ∧ wr = w3) (fun _ _ _ => 0)
          case atStart => exact ⟨rfl, rfl, rfl⟩
          case round =>
            obtain ⟨rfl, rfl, rfl⟩ := hrel
            go_wp2
            go_ret
            exact ⟨rfl, HB3.out⟩
        · have HN3 := Aside0.mk hnb
          have hcl : rows.length = n := HRL.out
          rw [hcl] at hcap ⊢
          clear hnb hcl
          go_wp2
          go_loopw [6, 23] (fun f i wr => ∃ (k : Nat) (Gk : Nbs) (fk : Int), i = .int .i64 k ∧ f = .int .i64 fk ∧ k ≤ l1.length ∧ Aside0 (fillGo (l1.drop k) Gk fk = fillGo l1 (nbsOf rows) 0) ∧ Aside0 (Outs Gk (l1.take k)) ∧ Aside0 (ordGo n l1.length (l1.take k).reverse (l1.drop k) = 0) ∧ Aside0 (Good Gk ∧ Gk.length = n) ∧ Aside0 (NbIs wr w2.heap.size B bs Gk) ∧ Aside0 (Below w.heap.size w wr)) (fun _ i _ => l1.length - (intOf i).toNat)
          case atStart => exact ⟨0, nbsOf rows, 0, rfl, rfl, Nat.zero_le _, ⟨rfl⟩, HO0, HOK, ⟨HG0.out, HL0.out⟩, HN3, HB3⟩
          case round =>
            clear HN3 HB3
            obtain ⟨k, Gk, fk, rfl, rfl, hk, HF, HO, HR, HG, HN, HB⟩ := hrel
            have HC := Aside0.mk (Kd.C_below HL1.out HB.out)
            by_cases hlt : k < l1.length
            · rcases cells_of_C HC.out with ⟨h0, _⟩ | ⟨h0, b1, o1, rfl, hce⟩
              · omega
              · have hcell := hce k hlt
                have hdrop : l1.drop k = l1.getD k 0 :: l1.drop (k + 1) := by rw [List.drop_eq_getElem_cons hlt]; simp [List.getElem?_eq_getElem hlt]
                have htake : l1.take (k + 1) = l1.take k ++ [l1.getD k 0] := by rw [List.take_succ_eq_append_getElem hlt]; simp [List.getElem?_eq_getElem hlt]
                have HF1 := HF.out
                have HR1 := HR.out
                rw [hdrop] at HF1 HR1
                obtain ⟨hv0, hv1, hv2, hv3⟩ := ordGo_cons HR1
                obtain ⟨b, hb⟩ := Int.eq_ofNat_of_zero_le hv0
                rw [hb] at hcell HF1 hv1 hv2 hv3 htake
                have HAB : Aside0 (Alive Gk b) := ⟨(HO.out.2 b).2 ⟨by omega, by rw [HG.out.2]; omega, fun h => hv2 (by simpa using h)⟩⟩
                have hbn : b < n := by omega
                have HF2 := Aside0.mk (show fillGo (l1.drop (k + 1)) (elim Gk b).1 (wrap64 (fk + (elim Gk b).2)) = fillGo l1 (nbsOf rows) 0 from HF1)
                have HR2 : Aside0 (ordGo n l1.length (l1.take (k + 1)).reverse (l1.drop (k + 1)) = 0) := ⟨by rw [htake, List.reverse_append]; exact hv3⟩
                have HT2 := Aside0.mk htake
                clear hdrop htake HF1 HR1 hv0 hv1 hv2 hv3 hb hce
                go_wp2_with (fail)
                have hcall := eliminate.calls Gk b w2.heap.size B cap bs wr HN.out (by rw [HG.out.2]; exact hcap) (by rw [HG.out.2]; omega) HAB.out (HG.out.1.ali b HAB.out) (HG.out.1.irr b HAB.out) (HG.out.1.nd b HAB.out)
                rw [HG.out.2] at hcall
                refine hcall.mono ?_
                rintro e w4 ⟨rfl, hN4, hE4⟩
                have HN4 := Aside0.mk hN4
                have HE4 := Aside0.mk hE4
                clear hN4 hE4 hcall
                go_wp2
                go_roundw
                case rel =>
                  obtain ⟨e1, e2, e3, _⟩ := elim_spec HG.out.1 HAB.out (by rw [HG.out.2]; omega)
                  have hbel : Below w.heap.size wr w4 := HE4.out.out HB.out.size (fun q_ hT => by
                    have h2 := HB2.out.size
                    rcases hT with rfl | ⟨i, hi, rfl⟩
                    · have := HN.out.lo
                      omega
                    · have := HN.out.los i (by rw [HG.out.2]; exact hi)
                      omega)
                  exact ⟨k + 1, (elim Gk b).1, _, by go_num, rfl, by omega, HF2, ⟨by rw [HT2.out]; exact HO.out.elim HG.out.1 HAB.out (by rw [HG.out.2]; omega)⟩, HR2, ⟨e3, by rw [e2, HG.out.2]⟩, HN4, ⟨HB.out.trans hbel⟩⟩
                case measure => simp [intOf]; omega
            · have hk2 : k = l1.length := by omega
              subst hk2
              have HFI : Aside0 (fk = fillGo l1 (nbsOf rows) 0) := ⟨by
                have h1 := HF.out
                rwa [List.drop_length] at h1⟩
              go_wp2
              go_ret
              exact ⟨by rw [← HFI.out]; rfl, HB.out⟩
      · have hms : fillS a0_0 l0_1 l1 = -1 := if_neg (fun h => ho h.2)
        rw [hms]
        rw [hc] at HFC
        have HNO := Aside0.mk ho
        have HCO : Aside0 (order_Check.f a0_0 l1 = some (ordGo a0_0 l1.length [] l1)) := ⟨rfl⟩
        clear hc ho hms
        generalize hcg : ordGo a0_0 l1.length [] l1 = cc at HNO HCO
        have hcc : (decide (cc = 0)) = false := by simpa using HNO.out
        have hcc2 : ¬ cc = 0 := HNO.out
        clear hcg
        go_enter Try.func39, Try.ntmps39
        go_wp2_with (first
          | (refine goesL_ (some 10) rfl rfl Try.func22 (by kernel_rfl) rfl #[.agg #[.int .i64 a0_0, .slice A0_1 l0_1.length c0_1]] rfl byL ?_
             refine (graph_Check.calls kc a0_0 A0_1 c0_1 l0_1 0 _ (Kd.C_alloc HC0.out _) hc0_1 HFC.out).mono ?_
             rintro e w1 ⟨rfl, hb⟩
             refine ⟨_, rfl, ?_⟩
             have HB1 := Aside0.mk (below_step (below_alloc (Below.refl w.heap.size w) _) hb)
             have HBK := Aside0.mk (blk_below (g := w.heap.size) (o := .cells #[.int .i64 a0_0, .slice A0_1 l0_1.length c0_1] 24 (0, 0)) (heap_alloc_new w _) hb)
             have HL2 := Aside0.mk (Kd.C_below (Kd.C_alloc HL1.out _) hb)
             have hbk0 := (blk_cell HBK.out 0).trans rfl
             clear hb))
        refine (order_Check.calls a0_0 A1 c1 l1 cc w1 HL2.out hc1 HCO.out).mono ?_
        rintro e w2 ⟨rfl, hb2⟩
        have HB2 := Aside0.mk (below_step HB1.out hb2)
        clear hbk0 hb2
        go_wp2_with (fail)
        go_ret
        exact ⟨rfl, HB2.out⟩
    · have hms : fillS a0_0 l0_1 l1 = -1 := if_neg (fun h => hc h.1)
      rw [hms]
      have HNE := Aside0.mk hc
      clear hc hms
      go_enter Try.func39, Try.ntmps39
      generalize hcg : chk a0_0 l0_1 = cc at HNE HFC
      have hcc : (decide (cc = 0)) = false := by simpa using HNE.out
      have hcc2 : ¬ cc = 0 := HNE.out
      clear hcg
      go_wp2_with (
        refine goesL_ (some 10) rfl rfl Try.func22 (by kernel_rfl) rfl #[.agg #[.int .i64 a0_0, .slice A0_1 l0_1.length c0_1]] rfl byL ?_
        refine (graph_Check.calls kc a0_0 A0_1 c0_1 l0_1 cc _ (Kd.C_alloc HC0.out _) hc0_1 HFC.out).mono ?_
        rintro e w1 ⟨rfl, hb⟩
        refine ⟨_, rfl, ?_⟩
        have HB1 := Aside0.mk (below_step (below_alloc (Below.refl w.heap.size w) _) hb)
        clear hb)
      go_ret
      exact ⟨rfl, HB1.out⟩
  · cases h
end Go.Proofs.Ytnnknbghfbjcnaa.Print
