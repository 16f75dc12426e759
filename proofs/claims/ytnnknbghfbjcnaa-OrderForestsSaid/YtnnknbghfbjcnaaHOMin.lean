/- The call of order.MinDegree. -/
import Derived.Test.YtnnknbghfbjcnaaHOOf
import Derived.Test.YtnnknbghfbjcnaaHOElim
namespace Go.Proofs.Ytnnknbghfbjcnaa.Print
open Go.RowKit Go.Proofs.YtnnknbghfbjcnaaW.PrintWords Go.Proofs.YtnnknbghfbjcnaaW.PrintLast Go.Proofs.YtnnknbghfbjcnaaW.PrintMore
set_option linter.unusedVariables false
set_option linter.unusedSimpArgs false

def minS (N : Int) (l : List S40) : List Int := if chk N l = 0 then minGo N.toNat (nbsOf (nbRows N.toNat l)) else []
def order_MinDegree.f (a0 : Int) (l : List S40) : Option (List Int) := if l.length < 100000000000 ∧ a0 ≤ 20000 then some (minS a0 l) else none
theorem minGo_length : ∀ (d : Nat) (G : Nbs), (minGo d G).length ≤ d
  | 0, G => by simp [minGo]
  | d + 1, G => by
    unfold minGo
    cases bestOf G G.length with
    | none => simp
    | some b =>
      have := minGo_length d (elim G b).1
      simp
      omega

set_option maxHeartbeats 1600000 in
set_option maxRecDepth 100000 in
theorem order_MinDegree.calls (a0_0 : Int) (A0_1 : Option Addr) (c0_1 : Nat) (l0_1 : List S40) (r : List Int) (w : World) (hr0_1 : Kd.C k40 w A0_1 l0_1.length l0_1) (hc0_1 : l0_1.length ≤ c0_1) (h : order_MinDegree.f a0_0 l0_1 = some r) :
    Calls Try.prog 37 #[.agg #[.int .i64 a0_0, .slice A0_1 l0_1.length c0_1]] w fun e w' => ∃ v0_ : Value, e = .returned v0_ ∧ Kd.R (Kd.int .i64) 3 w' w.heap.size (fun _ => True) v0_ r ∧ Below w.heap.size w w' := by
  unfold order_MinDegree.f at h
  split at h
  · rename_i hl
    obtain rfl := Option.some.inj h
    have HC0 := Aside0.mk hr0_1
    obtain ⟨kc, hkc⟩ := graph_Check.ev a0_0 l0_1 (by omega)
    obtain ⟨kn, hkn⟩ := graph_Neighbours.ev a0_0 l0_1 (by omega)
    have HFC := Aside0.mk (hkc kc (Nat.le_refl _))
    have HFN := Aside0.mk (hkn kn (Nat.le_refl _))
    clear h hkc hkn hr0_1
    by_cases hc : chk a0_0 l0_1 = 0
    · have HCK := Aside0.mk hc
      obtain ⟨hn0, hn1, _⟩ := chk_ok hc
      have hne : neighS a0_0 l0_1 = nbRows a0_0.toNat l0_1 := if_pos hc
      have hms : minS a0_0 l0_1 = minGo a0_0.toNat (nbsOf (nbRows a0_0.toNat l0_1)) := if_pos hc
      rw [hne] at HFN
      rw [hc] at HFC
      rw [hms]
      have HG0 := Aside0.mk (nbs_good hc)
      obtain ⟨n, rfl⟩ := Int.eq_ofNat_of_zero_le hn0
      rw [Int.toNat_natCast] at HFN HG0 ⊢
      have HO0 := Aside0.mk (nbs_outs n l0_1)
      have HL0 := Aside0.mk (nbs_length n l0_1)
      have HRL := Aside0.mk (nbRows_length n l0_1)
      clear hc hne hms hn0 hn1
      generalize nbRows n l0_1 = rows at HFN HG0 HO0 HL0 HRL
      have hneq := fun b w => @run_neq_map Try.prog 50 _ _ Try.underlying50 b w
      go_enter Try.func37, Try.ntmps37
      go_wp2_with (first
        | (refine goesL_ (some 9) rfl rfl Try.func22 (by kernel_rfl) rfl #[.agg #[.int .i64 (n : Int), .slice A0_1 l0_1.length c0_1]] rfl byL ?_
           refine (graph_Check.calls kc (n : Int) A0_1 c0_1 l0_1 0 _ (Kd.C_alloc HC0.out _) hc0_1 HFC.out).mono ?_
           rintro e w1 ⟨rfl, hb⟩
           refine ⟨_, rfl, ?_⟩
           have HB1 := Aside0.mk (below_step (below_alloc (Below.refl w.heap.size w) _) hb)
           have HBK := Aside0.mk (blk_below (g := w.heap.size) (o := .cells #[.int .i64 (n : Int), .slice A0_1 l0_1.length c0_1] 24 (0, 0)) (heap_alloc_new w _) hb)
           have HC1 := Aside0.mk (Kd.C_below (Kd.C_alloc HC0.out _) hb)
           have hbk0 := (blk_cell HBK.out 0).trans rfl
           have hbk1 := (blk_cell HBK.out 1).trans rfl
           clear hb))
      refine (order_of.calls kn (n : Int) A0_1 c0_1 l0_1 rows _ HC1.out hc0_1 HFN.out (by rw [HRL.out]; omega)).mono ?_
      rintro e w2 ⟨hb2, hcase⟩
      have HB2 := Aside0.mk (below_step HB1.out hb2)
      have HS2 := Aside0.mk (Nat.lt_of_lt_of_le (Array.getElem?_eq_some_iff.1 HBK.out).1 hb2.size)
      have hbk2 := pw_cell_below hb2 hbk0
      clear hbk0 hbk1 hb2
      rcases hcase with ⟨hnil, rfl⟩ | ⟨B, cap, bs, rfl, hcap, hnb⟩
      · have hn0 : n = 0 := by rw [← HRL.out, hnil]; rfl
        subst hn0
        clear hnil
        go_wp2
        go_loopw [4, 15] (fun o i wr => o = .slice none 0 0 ∧ i = .int .i64 0 ∧ wr = w2) (fun _ _ _ => 0)
        case atStart => exact ⟨rfl, rfl, rfl⟩
        case round =>
          obtain ⟨rfl, rfl, rfl⟩ := hrel
          go_wp2
          go_ret
          exact ⟨_, rfl, Kd.R_nil _ _ _ _ _, HB2.out⟩
      · have HN2 := Aside0.mk hnb
        have hcl : rows.length = n := HRL.out
        rw [hcl] at hcap ⊢
        clear hnb hcl
        go_wp2
        have HW1 := Aside0.mk (Nat.lt_of_lt_of_le (Array.getElem?_eq_some_iff.1 HBK.out).1 (Nat.le_refl _))
        clear hbk2
        go_loopw [4, 15] (fun o i wr => ∃ (k : Nat) (O : List Int) (Gk : Nbs), i = .int .i64 k ∧ k ≤ n ∧ Aside0 (O ++ minGo (n - k) Gk = minGo n (nbsOf rows)) ∧ Aside0 (Outs Gk O ∧ O.length = k) ∧ Aside0 (Good Gk ∧ Gk.length = n) ∧ Aside0 (NbIs wr w1.heap.size B bs Gk) ∧
          Aside0 (Kd.R (Kd.int .i64) 3 wr w.heap.size (fun q => ¬ NbT B bs n q) o O) ∧ Aside0 (Below w.heap.size w wr)) (fun _ i _ => n - (intOf i).toNat)
        case atStart => exact ⟨0, [], nbsOf rows, rfl, Nat.zero_le _, ⟨rfl⟩, ⟨HO0.out, rfl⟩, ⟨HG0.out, HL0.out⟩, HN2, ⟨Kd.R_nil _ _ _ _ _⟩, HB2⟩
        case round =>
          clear HN2 HB2
          obtain ⟨k, O, Gk, rfl, hk, HM, HO, HG, HN, HR, HB⟩ := hrel
          by_cases hlt : k < n
          · obtain ⟨A4, c4, rfl⟩ := Kd.R_slice HR.out
            go_wp2
            obtain ⟨wo, hwo⟩ : ∃ q, q = wr := ⟨_, rfl⟩
            subst hwo
            go_loopw [5, 19] (fun b i wr => ∃ (j q : Nat), i = .int .i64 j ∧ j ≤ n ∧ b = .int .i64 (encB (bestOf Gk j)) ∧ wr = wo.drewN q) (fun _ i _ => n - (intOf i).toNat)
            case atStart => exact ⟨0, 0, rfl, Nat.zero_le _, rfl, rfl⟩
            case round =>
              obtain ⟨j, q, rfl, hj, rfl, rfl⟩ := hrel
              have HNj := Aside0.mk (HN.out.drewN q)
              by_cases hjn : j < n
              · have hcj := HNj.out.cell j (by rw [HG.out.2]; exact hjn)
                cases hGj : Gk.getD j none with
                | none =>
                  rw [hGj] at hcj
                  simp only [Option.map_none] at hcj
                  have hb1 : bestOf Gk (j + 1) = bestOf Gk j := by
                    have ha : alOf Gk j = false := by unfold alOf; rw [hGj]; rfl
                    show (match bestF (alOf Gk) (dgOf Gk) j with | none => if alOf Gk j = true then some j else none | some b => if alOf Gk j = true ∧ dgOf Gk j < dgOf Gk b then some j else some b) = bestF (alOf Gk) (dgOf Gk) j
                    rw [ha]
                    cases bestF (alOf Gk) (dgOf Gk) j <;> simp
                  have HB1 := Aside0.mk hb1
                  clear hb1 hGj
                  go_wp2
                  refine start_ (n := 16) (S := fun w' => w'.heap = wo.heap) (ds := []) #[yF,yF,yF,yF,yF,yF,yF,yF,yF,yF,yF,yF,yF,yF,yF,yF] (by kernel_rfl) rfl rfl rfl (fun hHeld => ?_)
                  refine take_ (i := 0) (N := some 24) (v := ?_) (a' := ?_) #[yT,yF,yF,yF,yF,yF,yF,yF,yF,yF,yF,yF,yF,yF,yF,yF] rfl rfl (by kernel_rfl) (fun _ _ _ h => h) (Or.inl ⟨by rfl, ?_⟩) hHeld ?_ ?_; rotate_left; (·intro w' s0; go_simp; with_reducible rfl); rotate_left; (·simp only [putW]; rfl)
                  refine take_ (i := 1) (N := some 25) (v := ?_) (a' := ?_) #[yT,yT,yF,yF,yF,yF,yF,yF,yF,yF,yF,yF,yF,yF,yF,yF] rfl rfl (by kernel_rfl) (fun _ _ _ h => h) (Or.inl ⟨by rfl, ?_⟩) hHeld ?_ ?_; rotate_left; (·intro w' s0; go_simp; with_reducible rfl); rotate_left; (·simp only [putW]; rfl)
                  refine take_ (i := 2) (N := some 26) (v := ?_) (a' := ?_) #[yT,yT,yT,yF,yF,yF,yF,yF,yF,yF,yF,yF,yF,yF,yF,yF] rfl rfl (by kernel_rfl) (fun _ _ _ h => h) (Or.inl ⟨by rfl, ?_⟩) hHeld ?_ ?_; rotate_left; (·intro w' s0; go_simp; with_reducible rfl); rotate_left; (·simp only [putW]; rfl)
                  refine take_ (i := 3) (N := some 27) (v := undef) (a' := ?_) #[yT,yT,yT,yT,yF,yF,yF,yF,yF,yF,yF,yF,yF,yF,yF,yF] rfl rfl (by kernel_rfl) (fun _ _ _ h => h) (Or.inr ⟨by rfl, rfl⟩) hHeld ?_ ?_; rotate_left; (·simp only [putW]; rfl)
                  refine take_ (i := 4) (N := some 28) (v := undef) (a' := ?_) #[yT,yT,yT,yT,yT,yF,yF,yF,yF,yF,yF,yF,yF,yF,yF,yF] rfl rfl (by kernel_rfl) (fun _ _ _ h => h) (Or.inr ⟨by rfl, rfl⟩) hHeld ?_ ?_; rotate_left; (·simp only [putW]; rfl)
                  refine take_ (i := 5) (N := some 29) (v := undef) (a' := ?_) #[yT,yT,yT,yT,yT,yT,yF,yF,yF,yF,yF,yF,yF,yF,yF,yF] rfl rfl (by kernel_rfl) (fun _ _ _ h => h) (Or.inr ⟨by rfl, rfl⟩) hHeld ?_ ?_; rotate_left; (·simp only [putW]; rfl)
                  refine take_ (i := 6) (N := some 30) (v := undef) (a' := ?_) #[yT,yT,yT,yT,yT,yT,yT,yF,yF,yF,yF,yF,yF,yF,yF,yF] rfl rfl (by kernel_rfl) (fun _ _ _ h => h) (Or.inr ⟨by rfl, rfl⟩) hHeld ?_ ?_; rotate_left; (·simp only [putW]; rfl)
                  refine take_ (i := 7) (N := some 31) (v := undef) (a' := ?_) #[yT,yT,yT,yT,yT,yT,yT,yT,yF,yF,yF,yF,yF,yF,yF,yF] rfl rfl (by kernel_rfl) (fun _ _ _ h => h) (Or.inr ⟨by rfl, rfl⟩) hHeld ?_ ?_; rotate_left; (·simp only [putW]; rfl)
                  refine take_ (i := 8) (N := some 32) (v := undef) (a' := ?_) #[yT,yT,yT,yT,yT,yT,yT,yT,yT,yF,yF,yF,yF,yF,yF,yF] rfl rfl (by kernel_rfl) (fun _ _ _ h => h) (Or.inr ⟨by rfl, rfl⟩) hHeld ?_ ?_; rotate_left; (·simp only [putW]; rfl)
                  refine take_ (i := 9) (N := some 33) (v := undef) (a' := ?_) #[yT,yT,yT,yT,yT,yT,yT,yT,yT,yT,yF,yF,yF,yF,yF,yF] rfl rfl (by kernel_rfl) (fun _ _ _ h => h) (Or.inr ⟨by rfl, rfl⟩) hHeld ?_ ?_; rotate_left; (·simp only [putW]; rfl)
                  refine take_ (i := 10) (N := some 34) (v := undef) (a' := ?_) #[yT,yT,yT,yT,yT,yT,yT,yT,yT,yT,yT,yF,yF,yF,yF,yF] rfl rfl (by kernel_rfl) (fun _ _ _ h => h) (Or.inr ⟨by rfl, rfl⟩) hHeld ?_ ?_; rotate_left; (·simp only [putW]; rfl)
                  refine take_ (i := 11) (N := some 35) (v := undef) (a' := ?_) #[yT,yT,yT,yT,yT,yT,yT,yT,yT,yT,yT,yT,yF,yF,yF,yF] rfl rfl (by kernel_rfl) (fun _ _ _ h => h) (Or.inr ⟨by rfl, rfl⟩) hHeld ?_ ?_; rotate_left; (·simp only [putW]; rfl)
                  refine take_ (i := 12) (N := some 36) (v := undef) (a' := ?_) #[yT,yT,yT,yT,yT,yT,yT,yT,yT,yT,yT,yT,yT,yF,yF,yF] rfl rfl (by kernel_rfl) (fun _ _ _ h => h) (Or.inr ⟨by rfl, rfl⟩) hHeld ?_ ?_; rotate_left; (·simp only [putW]; rfl)
                  refine take_ (i := 13) (N := some 37) (v := undef) (a' := ?_) #[yT,yT,yT,yT,yT,yT,yT,yT,yT,yT,yT,yT,yT,yT,yF,yF] rfl rfl (by kernel_rfl) (fun _ _ _ h => h) (Or.inr ⟨by rfl, rfl⟩) hHeld ?_ ?_; rotate_left; (·simp only [putW]; rfl)
                  refine take_ (i := 14) (N := some 38) (v := undef) (a' := ?_) #[yT,yT,yT,yT,yT,yT,yT,yT,yT,yT,yT,yT,yT,yT,yT,yF] rfl rfl (by kernel_rfl) (fun _ _ _ h => h) (Or.inr ⟨by rfl, rfl⟩) hHeld ?_ ?_; rotate_left; (·simp only [putW]; rfl)
                  refine take_ (i := 15) (N := some 39) (v := ?_) (a' := ?_) #[yT,yT,yT,yT,yT,yT,yT,yT,yT,yT,yT,yT,yT,yT,yT,yT] rfl rfl (by kernel_rfl) (fun _ _ _ h => h) (Or.inl ⟨by rfl, ?_⟩) hHeld ?_ ?_; rotate_left; (·intro w' s0; go_simp; with_reducible rfl); rotate_left; (·simp only [putW]; rfl)
                  refine done_ (by kernel_rfl) ?_
                  go_wp2
                  go_roundw
                  case rel => exact ⟨j + 1, q + 1, by go_num, by omega, by rw [HB1.out], rfl⟩
                  case measure => simp [intOf]; omega
                | some ks =>
                  rw [hGj] at hcj
                  simp only [Option.map_some] at hcj
                  have hla : alOf Gk j = true := by unfold alOf; rw [hGj]; rfl
                  have haj : Alive Gk j := alive_al.2 ⟨by rw [HG.out.2]; exact hjn, hla⟩
                  have HMJ := Aside0.mk (show MapIs (Value.int .i64) Value.bool (wo.drewN q).drew (bs j) (kmap (kOf Gk j)) from HNj.out.mapOf haj)
                  have hdj : dgOf Gk j = (kOf Gk j).length := rfl
                  cases hbj : bestOf Gk j with
                  | none =>
                    have hb1 : bestOf Gk (j + 1) = some j := by
                      show (match bestF (alOf Gk) (dgOf Gk) j with | none => if alOf Gk j = true then some j else none | some b => if alOf Gk j = true ∧ dgOf Gk j < dgOf Gk b then some j else some b) = some j
                      rw [show bestF (alOf Gk) (dgOf Gk) j = none from hbj]
                      simp [hla]
                    have HB1 := Aside0.mk hb1
                    have he : encB none = -1 := rfl
                    rw [he]
                    clear hb1 hGj hla haj hdj hbj he
                    go_wp2
                    refine start_ (n := 16) (S := fun w' => w'.heap = wo.heap) (ds := []) #[yF,yF,yF,yF,yF,yF,yF,yF,yF,yF,yF,yF,yF,yF,yF,yF] (by kernel_rfl) rfl rfl rfl (fun hHeld => ?_)
                    refine take_ (i := 0) (N := some 24) (v := ?_) (a' := ?_) #[yT,yF,yF,yF,yF,yF,yF,yF,yF,yF,yF,yF,yF,yF,yF,yF] rfl rfl (by kernel_rfl) (fun _ _ _ h => h) (Or.inl ⟨by rfl, ?_⟩) hHeld ?_ ?_; rotate_left; (·intro w' s0; go_simp; with_reducible rfl); rotate_left; (·simp only [putW]; rfl)
                    refine take_ (i := 1) (N := some 25) (v := ?_) (a' := ?_) #[yT,yT,yF,yF,yF,yF,yF,yF,yF,yF,yF,yF,yF,yF,yF,yF] rfl rfl (by kernel_rfl) (fun _ _ _ h => h) (Or.inl ⟨by rfl, ?_⟩) hHeld ?_ ?_; rotate_left; (·intro w' s0; go_simp; with_reducible rfl); rotate_left; (·simp only [putW]; rfl)
                    refine take_ (i := 2) (N := some 26) (v := ?_) (a' := ?_) #[yT,yT,yT,yF,yF,yF,yF,yF,yF,yF,yF,yF,yF,yF,yF,yF] rfl rfl (by kernel_rfl) (fun _ _ _ h => h) (Or.inl ⟨by rfl, ?_⟩) hHeld ?_ ?_; rotate_left; (·intro w' s0; go_simp; with_reducible rfl); rotate_left; (·simp only [putW]; rfl)
                    refine take_ (i := 3) (N := some 27) (v := ?_) (a' := ?_) #[yT,yT,yT,yT,yF,yF,yF,yF,yF,yF,yF,yF,yF,yF,yF,yF] rfl rfl (by kernel_rfl) (fun _ _ _ h => h) (Or.inl ⟨by rfl, ?_⟩) hHeld ?_ ?_; rotate_left; (·intro w' s0; go_simp; with_reducible rfl); rotate_left; (·simp only [putW]; rfl)
                    refine take_ (i := 4) (N := some 28) (v := ?_) (a' := ?_) #[yT,yT,yT,yT,yT,yF,yF,yF,yF,yF,yF,yF,yF,yF,yF,yF] rfl rfl (by kernel_rfl) (fun _ _ _ h => h) (Or.inl ⟨by rfl, ?_⟩) hHeld ?_ ?_; rotate_left; (·intro w' s0; go_simp; with_reducible rfl); rotate_left; (·simp only [putW]; rfl)
                    refine take_ (i := 5) (N := some 29) (v := ?_) (a' := ?_) #[yT,yT,yT,yT,yT,yT,yF,yF,yF,yF,yF,yF,yF,yF,yF,yF] rfl rfl (by kernel_rfl) (fun _ _ _ h => h) (Or.inl ⟨by rfl, ?_⟩) hHeld ?_ ?_; rotate_left; (·intro w' s0; go_simp; with_reducible rfl); rotate_left; (·simp only [putW]; rfl)
                    refine take_ (i := 6) (N := some 30) (v := undef) (a' := ?_) #[yT,yT,yT,yT,yT,yT,yT,yF,yF,yF,yF,yF,yF,yF,yF,yF] rfl rfl (by kernel_rfl) (fun _ _ _ h => h) (Or.inr ⟨by rfl, rfl⟩) hHeld ?_ ?_; rotate_left; (·simp only [putW]; rfl)
                    refine take_ (i := 7) (N := some 31) (v := undef) (a' := ?_) #[yT,yT,yT,yT,yT,yT,yT,yT,yF,yF,yF,yF,yF,yF,yF,yF] rfl rfl (by kernel_rfl) (fun _ _ _ h => h) (Or.inr ⟨by rfl, rfl⟩) hHeld ?_ ?_; rotate_left; (·simp only [putW]; rfl)
                    refine take_ (i := 8) (N := some 32) (v := undef) (a' := ?_) #[yT,yT,yT,yT,yT,yT,yT,yT,yT,yF,yF,yF,yF,yF,yF,yF] rfl rfl (by kernel_rfl) (fun _ _ _ h => h) (Or.inr ⟨by rfl, rfl⟩) hHeld ?_ ?_; rotate_left; (·simp only [putW]; rfl)
                    refine take_ (i := 9) (N := some 33) (v := undef) (a' := ?_) #[yT,yT,yT,yT,yT,yT,yT,yT,yT,yT,yF,yF,yF,yF,yF,yF] rfl rfl (by kernel_rfl) (fun _ _ _ h => h) (Or.inr ⟨by rfl, rfl⟩) hHeld ?_ ?_; rotate_left; (·simp only [putW]; rfl)
                    refine take_ (i := 10) (N := some 34) (v := undef) (a' := ?_) #[yT,yT,yT,yT,yT,yT,yT,yT,yT,yT,yT,yF,yF,yF,yF,yF] rfl rfl (by kernel_rfl) (fun _ _ _ h => h) (Or.inr ⟨by rfl, rfl⟩) hHeld ?_ ?_; rotate_left; (·simp only [putW]; rfl)
                    refine take_ (i := 11) (N := some 35) (v := undef) (a' := ?_) #[yT,yT,yT,yT,yT,yT,yT,yT,yT,yT,yT,yT,yF,yF,yF,yF] rfl rfl (by kernel_rfl) (fun _ _ _ h => h) (Or.inr ⟨by rfl, rfl⟩) hHeld ?_ ?_; rotate_left; (·simp only [putW]; rfl)
                    refine take_ (i := 12) (N := some 36) (v := undef) (a' := ?_) #[yT,yT,yT,yT,yT,yT,yT,yT,yT,yT,yT,yT,yT,yF,yF,yF] rfl rfl (by kernel_rfl) (fun _ _ _ h => h) (Or.inr ⟨by rfl, rfl⟩) hHeld ?_ ?_; rotate_left; (·simp only [putW]; rfl)
                    refine take_ (i := 13) (N := some 37) (v := undef) (a' := ?_) #[yT,yT,yT,yT,yT,yT,yT,yT,yT,yT,yT,yT,yT,yT,yF,yF] rfl rfl (by kernel_rfl) (fun _ _ _ h => h) (Or.inr ⟨by rfl, rfl⟩) hHeld ?_ ?_; rotate_left; (·simp only [putW]; rfl)
                    refine take_ (i := 14) (N := some 38) (v := ?_) (a' := ?_) #[yT,yT,yT,yT,yT,yT,yT,yT,yT,yT,yT,yT,yT,yT,yT,yF] rfl rfl (by kernel_rfl) (fun _ _ _ h => h) (Or.inl ⟨by rfl, ?_⟩) hHeld ?_ ?_; rotate_left; (·intro w' s0; go_simp; with_reducible rfl); rotate_left; (·simp only [putW]; rfl)
                    refine take_ (i := 15) (N := some 39) (v := ?_) (a' := ?_) #[yT,yT,yT,yT,yT,yT,yT,yT,yT,yT,yT,yT,yT,yT,yT,yT] rfl rfl (by kernel_rfl) (fun _ _ _ h => h) (Or.inl ⟨by rfl, ?_⟩) hHeld ?_ ?_; rotate_left; (·intro w' s0; go_simp; with_reducible rfl); rotate_left; (·simp only [putW]; rfl)
                    refine done_ (by kernel_rfl) ?_
                    go_wp2
                    go_roundw
                    case rel => exact ⟨j + 1, q + 1, by go_num, by omega, by rw [HB1.out]; rfl, rfl⟩
                    case measure => simp [intOf]; omega
                  | some b =>
                    obtain ⟨hbl, hab⟩ := best_alive hbj (by rw [HG.out.2]; exact hj)
                    have hcb := HNj.out.cellOf hab
                    have hbn : b < n := by omega
                    rw [Int.toNat_natCast] at hcb
                    have HMB := Aside0.mk (show MapIs (Value.int .i64) Value.bool (wo.drewN q).drew (bs b) (kmap (kOf Gk b)) from HNj.out.mapOf hab)
                    have hb1 : bestOf Gk (j + 1) = if (kOf Gk j).length < (kOf Gk b).length then some j else some b := by
                      show (match bestF (alOf Gk) (dgOf Gk) j with | none => if alOf Gk j = true then some j else none | some b => if alOf Gk j = true ∧ dgOf Gk j < dgOf Gk b then some j else some b) = _
                      rw [show bestF (alOf Gk) (dgOf Gk) j = some b from hbj]
                      simp [hla, dgOf]
                    have HB1 := Aside0.mk hb1
                    have he : encB (some b) = (b : Int) := rfl
                    rw [he]
                    rw [← kmap_len (kOf Gk j), ← kmap_len (kOf Gk b)] at HB1
                    generalize hm1 : kmap (kOf Gk j) = m1 at HMJ HB1
                    generalize hm2 : kmap (kOf Gk b) = m2 at HMB HB1
                    clear hb1 hGj hla haj hdj hbj he hab hbl hm1 hm2
                    have hbz : decide ((b : Int) < 0) = false := by simp
                    have hbz2 : ¬ (b : Int) < 0 := by omega
                    by_cases hlen : m1.length < m2.length
                    · rw [if_pos hlen] at HB1
                      go_wp2
                      refine start_ (n := 16) (S := fun w' => w'.heap = wo.heap) (ds := []) #[yF,yF,yF,yF,yF,yF,yF,yF,yF,yF,yF,yF,yF,yF,yF,yF] (by kernel_rfl) rfl rfl rfl (fun hHeld => ?_)
                      refine take_ (i := 0) (N := some 24) (v := ?_) (a' := ?_) #[yT,yF,yF,yF,yF,yF,yF,yF,yF,yF,yF,yF,yF,yF,yF,yF] rfl rfl (by kernel_rfl) (fun _ _ _ h => h) (Or.inl ⟨by rfl, ?_⟩) hHeld ?_ ?_; rotate_left; (·intro w' s0; go_simp; with_reducible rfl); rotate_left; (·simp only [putW]; rfl)
                      refine take_ (i := 1) (N := some 25) (v := ?_) (a' := ?_) #[yT,yT,yF,yF,yF,yF,yF,yF,yF,yF,yF,yF,yF,yF,yF,yF] rfl rfl (by kernel_rfl) (fun _ _ _ h => h) (Or.inl ⟨by rfl, ?_⟩) hHeld ?_ ?_; rotate_left; (·intro w' s0; go_simp; with_reducible rfl); rotate_left; (·simp only [putW]; rfl)
                      refine take_ (i := 2) (N := some 26) (v := ?_) (a' := ?_) #[yT,yT,yT,yF,yF,yF,yF,yF,yF,yF,yF,yF,yF,yF,yF,yF] rfl rfl (by kernel_rfl) (fun _ _ _ h => h) (Or.inl ⟨by rfl, ?_⟩) hHeld ?_ ?_; rotate_left; (·intro w' s0; go_simp; with_reducible rfl); rotate_left; (·simp only [putW]; rfl)
                      refine take_ (i := 3) (N := some 27) (v := ?_) (a' := ?_) #[yT,yT,yT,yT,yF,yF,yF,yF,yF,yF,yF,yF,yF,yF,yF,yF] rfl rfl (by kernel_rfl) (fun _ _ _ h => h) (Or.inl ⟨by rfl, ?_⟩) hHeld ?_ ?_; rotate_left; (·intro w' s0; go_simp; with_reducible rfl); rotate_left; (·simp only [putW]; rfl)
                      refine take_ (i := 4) (N := some 28) (v := ?_) (a' := ?_) #[yT,yT,yT,yT,yT,yF,yF,yF,yF,yF,yF,yF,yF,yF,yF,yF] rfl rfl (by kernel_rfl) (fun _ _ _ h => h) (Or.inl ⟨by rfl, ?_⟩) hHeld ?_ ?_; rotate_left; (·intro w' s0; go_simp; (try simp only [hbz]); with_reducible rfl); rotate_left; (·simp only [putW]; rfl)
                      refine take_ (i := 5) (N := some 29) (v := ?_) (a' := ?_) #[yT,yT,yT,yT,yT,yT,yF,yF,yF,yF,yF,yF,yF,yF,yF,yF] rfl rfl (by kernel_rfl) (fun _ _ _ h => h) (Or.inl ⟨by rfl, ?_⟩) hHeld ?_ ?_; rotate_left; (·intro w' s0; go_simp; (try simp only [hbz]); with_reducible rfl); rotate_left; (·simp only [putW]; rfl)
                      refine take_ (i := 6) (N := some 30) (v := ?_) (a' := ?_) #[yT,yT,yT,yT,yT,yT,yT,yF,yF,yF,yF,yF,yF,yF,yF,yF] rfl rfl (by kernel_rfl) (fun _ _ _ h => h) (Or.inl ⟨by rfl, ?_⟩) hHeld ?_ ?_; rotate_left; (·intro w' s0; go_simp; with_reducible rfl); rotate_left; (·simp only [putW]; rfl)
                      refine take_ (i := 7) (N := some 31) (v := ?_) (a' := ?_) #[yT,yT,yT,yT,yT,yT,yT,yT,yF,yF,yF,yF,yF,yF,yF,yF] rfl rfl (by kernel_rfl) (fun _ _ _ h => h) (Or.inl ⟨by rfl, ?_⟩) hHeld ?_ ?_; rotate_left; (·intro w' s0; refine yields_len Try.underlying50 (.tmp 30) (HMJ.out.keep (by rw [s0]; rfl)) ?_ ?_ ?_ <;> rfl); rotate_left; (·simp only [putW]; rfl)
                      refine take_ (i := 8) (N := some 32) (v := ?_) (a' := ?_) #[yT,yT,yT,yT,yT,yT,yT,yT,yT,yF,yF,yF,yF,yF,yF,yF] rfl rfl (by kernel_rfl) (fun _ _ _ h => h) (Or.inl ⟨by rfl, ?_⟩) hHeld ?_ ?_; rotate_left; (·intro w' s0; go_simp; with_reducible rfl); rotate_left; (·simp only [putW]; rfl)
                      refine take_ (i := 9) (N := some 33) (v := ?_) (a' := ?_) #[yT,yT,yT,yT,yT,yT,yT,yT,yT,yT,yF,yF,yF,yF,yF,yF] rfl rfl (by kernel_rfl) (fun _ _ _ h => h) (Or.inl ⟨by rfl, ?_⟩) hHeld ?_ ?_; rotate_left; (·intro w' s0; go_simp; with_reducible rfl); rotate_left; (·simp only [putW]; rfl)
                      refine take_ (i := 10) (N := some 34) (v := ?_) (a' := ?_) #[yT,yT,yT,yT,yT,yT,yT,yT,yT,yT,yT,yF,yF,yF,yF,yF] rfl rfl (by kernel_rfl) (fun _ _ _ h => h) (Or.inl ⟨by rfl, ?_⟩) hHeld ?_ ?_; rotate_left; (·intro w' s0; go_simp; with_reducible rfl); rotate_left; (·simp only [putW]; rfl)
                      refine take_ (i := 11) (N := some 35) (v := ?_) (a' := ?_) #[yT,yT,yT,yT,yT,yT,yT,yT,yT,yT,yT,yT,yF,yF,yF,yF] rfl rfl (by kernel_rfl) (fun _ _ _ h => h) (Or.inl ⟨by rfl, ?_⟩) hHeld ?_ ?_; rotate_left; (·intro w' s0; have hc_ := (cell_heap s0 _).trans hcb; go_simp; with_reducible rfl); rotate_left; (·simp only [putW]; rfl)
                      refine take_ (i := 12) (N := some 36) (v := ?_) (a' := ?_) #[yT,yT,yT,yT,yT,yT,yT,yT,yT,yT,yT,yT,yT,yF,yF,yF] rfl rfl (by kernel_rfl) (fun _ _ _ h => h) (Or.inl ⟨by rfl, ?_⟩) hHeld ?_ ?_; rotate_left; (·intro w' s0; refine yields_len Try.underlying50 (.tmp 35) (HMB.out.keep (by rw [s0]; rfl)) ?_ ?_ ?_ <;> rfl); rotate_left; (·simp only [putW]; rfl)
                      refine take_ (i := 13) (N := some 37) (v := ?_) (a' := ?_) #[yT,yT,yT,yT,yT,yT,yT,yT,yT,yT,yT,yT,yT,yT,yF,yF] rfl rfl (by kernel_rfl) (fun _ _ _ h => h) (Or.inl ⟨by rfl, ?_⟩) hHeld ?_ ?_; rotate_left; (·intro w' s0; go_simp; with_reducible rfl); rotate_left; (·simp only [putW]; rfl)
                      refine take_ (i := 14) (N := some 38) (v := ?_) (a' := ?_) #[yT,yT,yT,yT,yT,yT,yT,yT,yT,yT,yT,yT,yT,yT,yT,yF] rfl rfl (by kernel_rfl) (fun _ _ _ h => h) (Or.inl ⟨by rfl, ?_⟩) hHeld ?_ ?_; rotate_left; (·intro w' s0; go_simp; with_reducible rfl); rotate_left; (·simp only [putW]; rfl)
                      refine take_ (i := 15) (N := some 39) (v := ?_) (a' := ?_) #[yT,yT,yT,yT,yT,yT,yT,yT,yT,yT,yT,yT,yT,yT,yT,yT] rfl rfl (by kernel_rfl) (fun _ _ _ h => h) (Or.inl ⟨by rfl, ?_⟩) hHeld ?_ ?_; rotate_left; (·intro w' s0; go_simp; with_reducible rfl); rotate_left; (·simp only [putW]; rfl)
                      refine done_ (by kernel_rfl) ?_
                      go_wp2
                      go_roundw
                      case rel => exact ⟨j + 1, q + 1, by go_num, by omega, by rw [HB1.out]; rfl, rfl⟩
                      case measure => simp [intOf]; omega
                    · rw [if_neg hlen] at HB1
                      go_wp2
                      refine start_ (n := 16) (S := fun w' => w'.heap = wo.heap) (ds := []) #[yF,yF,yF,yF,yF,yF,yF,yF,yF,yF,yF,yF,yF,yF,yF,yF] (by kernel_rfl) rfl rfl rfl (fun hHeld => ?_)
                      refine take_ (i := 0) (N := some 24) (v := ?_) (a' := ?_) #[yT,yF,yF,yF,yF,yF,yF,yF,yF,yF,yF,yF,yF,yF,yF,yF] rfl rfl (by kernel_rfl) (fun _ _ _ h => h) (Or.inl ⟨by rfl, ?_⟩) hHeld ?_ ?_; rotate_left; (·intro w' s0; go_simp; with_reducible rfl); rotate_left; (·simp only [putW]; rfl)
                      refine take_ (i := 1) (N := some 25) (v := ?_) (a' := ?_) #[yT,yT,yF,yF,yF,yF,yF,yF,yF,yF,yF,yF,yF,yF,yF,yF] rfl rfl (by kernel_rfl) (fun _ _ _ h => h) (Or.inl ⟨by rfl, ?_⟩) hHeld ?_ ?_; rotate_left; (·intro w' s0; go_simp; with_reducible rfl); rotate_left; (·simp only [putW]; rfl)
                      refine take_ (i := 2) (N := some 26) (v := ?_) (a' := ?_) #[yT,yT,yT,yF,yF,yF,yF,yF,yF,yF,yF,yF,yF,yF,yF,yF] rfl rfl (by kernel_rfl) (fun _ _ _ h => h) (Or.inl ⟨by rfl, ?_⟩) hHeld ?_ ?_; rotate_left; (·intro w' s0; go_simp; with_reducible rfl); rotate_left; (·simp only [putW]; rfl)
                      refine take_ (i := 3) (N := some 27) (v := ?_) (a' := ?_) #[yT,yT,yT,yT,yF,yF,yF,yF,yF,yF,yF,yF,yF,yF,yF,yF] rfl rfl (by kernel_rfl) (fun _ _ _ h => h) (Or.inl ⟨by rfl, ?_⟩) hHeld ?_ ?_; rotate_left; (·intro w' s0; go_simp; with_reducible rfl); rotate_left; (·simp only [putW]; rfl)
                      refine take_ (i := 4) (N := some 28) (v := ?_) (a' := ?_) #[yT,yT,yT,yT,yT,yF,yF,yF,yF,yF,yF,yF,yF,yF,yF,yF] rfl rfl (by kernel_rfl) (fun _ _ _ h => h) (Or.inl ⟨by rfl, ?_⟩) hHeld ?_ ?_; rotate_left; (·intro w' s0; go_simp; (try simp only [hbz]); with_reducible rfl); rotate_left; (·simp only [putW]; rfl)
                      refine take_ (i := 5) (N := some 29) (v := ?_) (a' := ?_) #[yT,yT,yT,yT,yT,yT,yF,yF,yF,yF,yF,yF,yF,yF,yF,yF] rfl rfl (by kernel_rfl) (fun _ _ _ h => h) (Or.inl ⟨by rfl, ?_⟩) hHeld ?_ ?_; rotate_left; (·intro w' s0; go_simp; (try simp only [hbz]); with_reducible rfl); rotate_left; (·simp only [putW]; rfl)
                      refine take_ (i := 6) (N := some 30) (v := ?_) (a' := ?_) #[yT,yT,yT,yT,yT,yT,yT,yF,yF,yF,yF,yF,yF,yF,yF,yF] rfl rfl (by kernel_rfl) (fun _ _ _ h => h) (Or.inl ⟨by rfl, ?_⟩) hHeld ?_ ?_; rotate_left; (·intro w' s0; go_simp; with_reducible rfl); rotate_left; (·simp only [putW]; rfl)
                      refine take_ (i := 7) (N := some 31) (v := ?_) (a' := ?_) #[yT,yT,yT,yT,yT,yT,yT,yT,yF,yF,yF,yF,yF,yF,yF,yF] rfl rfl (by kernel_rfl) (fun _ _ _ h => h) (Or.inl ⟨by rfl, ?_⟩) hHeld ?_ ?_; rotate_left; (·intro w' s0; refine yields_len Try.underlying50 (.tmp 30) (HMJ.out.keep (by rw [s0]; rfl)) ?_ ?_ ?_ <;> rfl); rotate_left; (·simp only [putW]; rfl)
                      refine take_ (i := 8) (N := some 32) (v := ?_) (a' := ?_) #[yT,yT,yT,yT,yT,yT,yT,yT,yT,yF,yF,yF,yF,yF,yF,yF] rfl rfl (by kernel_rfl) (fun _ _ _ h => h) (Or.inl ⟨by rfl, ?_⟩) hHeld ?_ ?_; rotate_left; (·intro w' s0; go_simp; with_reducible rfl); rotate_left; (·simp only [putW]; rfl)
                      refine take_ (i := 9) (N := some 33) (v := ?_) (a' := ?_) #[yT,yT,yT,yT,yT,yT,yT,yT,yT,yT,yF,yF,yF,yF,yF,yF] rfl rfl (by kernel_rfl) (fun _ _ _ h => h) (Or.inl ⟨by rfl, ?_⟩) hHeld ?_ ?_; rotate_left; (·intro w' s0; go_simp; with_reducible rfl); rotate_left; (·simp only [putW]; rfl)
                      refine take_ (i := 10) (N := some 34) (v := ?_) (a' := ?_) #[yT,yT,yT,yT,yT,yT,yT,yT,yT,yT,yT,yF,yF,yF,yF,yF] rfl rfl (by kernel_rfl) (fun _ _ _ h => h) (Or.inl ⟨by rfl, ?_⟩) hHeld ?_ ?_; rotate_left; (·intro w' s0; go_simp; with_reducible rfl); rotate_left; (·simp only [putW]; rfl)
                      refine take_ (i := 11) (N := some 35) (v := ?_) (a' := ?_) #[yT,yT,yT,yT,yT,yT,yT,yT,yT,yT,yT,yT,yF,yF,yF,yF] rfl rfl (by kernel_rfl) (fun _ _ _ h => h) (Or.inl ⟨by rfl, ?_⟩) hHeld ?_ ?_; rotate_left; (·intro w' s0; have hc_ := (cell_heap s0 _).trans hcb; go_simp; with_reducible rfl); rotate_left; (·simp only [putW]; rfl)
                      refine take_ (i := 12) (N := some 36) (v := ?_) (a' := ?_) #[yT,yT,yT,yT,yT,yT,yT,yT,yT,yT,yT,yT,yT,yF,yF,yF] rfl rfl (by kernel_rfl) (fun _ _ _ h => h) (Or.inl ⟨by rfl, ?_⟩) hHeld ?_ ?_; rotate_left; (·intro w' s0; refine yields_len Try.underlying50 (.tmp 35) (HMB.out.keep (by rw [s0]; rfl)) ?_ ?_ ?_ <;> rfl); rotate_left; (·simp only [putW]; rfl)
                      refine take_ (i := 13) (N := some 37) (v := ?_) (a' := ?_) #[yT,yT,yT,yT,yT,yT,yT,yT,yT,yT,yT,yT,yT,yT,yF,yF] rfl rfl (by kernel_rfl) (fun _ _ _ h => h) (Or.inl ⟨by rfl, ?_⟩) hHeld ?_ ?_; rotate_left; (·intro w' s0; go_simp; with_reducible rfl); rotate_left; (·simp only [putW]; rfl)
                      refine take_ (i := 14) (N := some 38) (v := ?_) (a' := ?_) #[yT,yT,yT,yT,yT,yT,yT,yT,yT,yT,yT,yT,yT,yT,yT,yF] rfl rfl (by kernel_rfl) (fun _ _ _ h => h) (Or.inl ⟨by rfl, ?_⟩) hHeld ?_ ?_; rotate_left; (·intro w' s0; go_simp; with_reducible rfl); rotate_left; (·simp only [putW]; rfl)
                      refine take_ (i := 15) (N := some 39) (v := ?_) (a' := ?_) #[yT,yT,yT,yT,yT,yT,yT,yT,yT,yT,yT,yT,yT,yT,yT,yT] rfl rfl (by kernel_rfl) (fun _ _ _ h => h) (Or.inl ⟨by rfl, ?_⟩) hHeld ?_ ?_; rotate_left; (·intro w' s0; go_simp; with_reducible rfl); rotate_left; (·simp only [putW]; rfl)
                      refine done_ (by kernel_rfl) ?_
                      go_wp2
                      go_roundw
                      case rel => exact ⟨j + 1, q + 1, by go_num, by omega, by rw [HB1.out]; rfl, rfl⟩
                      case measure => simp [intOf]; omega
              · have hj2 : j = n := by omega
                subst hj2
                obtain ⟨b, hbest, hab⟩ := HO.out.1.best (by rw [HO.out.2, HG.out.2]; exact hlt)
                rw [HG.out.2] at hbest
                have HBE := Aside0.mk hbest
                have HAB := Aside0.mk hab
                have hbe : encB (bestOf Gk j) = (b : Int) := by rw [hbest]; rfl
                rw [hbe]
                have HRj := Aside0.mk (Kd.R_drewN HR.out q)
                have HBj := Aside0.mk (pw_below_drewN HB.out q)
                have HFR : Aside0 (∀ q_, (wo.drewN q).heap.size ≤ q_ → ¬ NbT B bs j q_) := ⟨fun q_ hq hT => by
                  rcases hT with rfl | ⟨i, hi, rfl⟩
                  · have := HNj.out.top
                    omega
                  · have := HNj.out.tops i (by rw [HG.out.2]; exact hi)
                    omega⟩
                have hOl : O.length ≤ 20000 := by have := HO.out.2; omega
                clear hbest hab hbe
                go_wp2_with (
                  refine Kd.R_append (Kd.int .i64) (w0 := w) w.heap.size (by rfl) (.tmp 42) (.tmp 44) 31 3 (.int .i64 0) 8 rfl Try.underlying31 info3 rfl (by decide) (by omega) (.slice A4 O.length c4) O (b : Int) [.int .i64 (b : Int)] (fun q => ¬ NbT B bs j q) (fun _ => False) rfl rfl ?aP (fun _ hk => hk.elim) ?aF ?aO ?aB ?aS ?aL ?_
                  (case aP => exact rfl)
                  (case aF => exact HFR.out)
                  (case aO => exact HRj.out)
                  (case aB => exact HBj.out)
                  (case aS => exact HBj.out.size)
                  (case aL => omega)
                  intro v1 w3 ho hb hg hat
                  have HR3 := Aside0.mk ho
                  have HB3 := Aside0.mk hb
                  have HG3 := Aside0.mk hg
                  clear ho hb hg hat)
                have HOB : Aside0 (∀ q_, (Value.slice A4 O.length c4).ownBlock = some q_ → ¬ NbT B bs j q_) := ⟨HRj.out.1⟩
                have HN3 := Aside0.mk (HNj.out.grown HG3.out (fun e => HOB.out _ e.symm (.inl rfl)) (fun i hi e => HOB.out _ e.symm (.inr ⟨i, by rw [← HG.out.2]; exact hi, rfl⟩)))
                have hcall := eliminate.calls Gk b w1.heap.size B cap bs w3 HN3.out (by rw [HG.out.2]; exact hcap) (by rw [HG.out.2]; omega) HAB.out (HG.out.1.ali b HAB.out) (HG.out.1.irr b HAB.out) (HG.out.1.nd b HAB.out)
                rw [HG.out.2] at hcall
                refine hcall.mono ?_
                rintro e w4 ⟨rfl, hN4, hE4⟩
                have HN4 := Aside0.mk hN4
                have HE4 := Aside0.mk hE4
                clear hN4 hE4 hcall
                go_wp2
                go_roundw
                case rel =>
                  obtain ⟨e1, e2, e3, _⟩ := elim_spec HG.out.1 HAB.out (by rw [HG.out.2]; omega)
                  refine ⟨k + 1, O ++ [(b : Int)], (elim Gk b).1, by go_num, by omega, ⟨?_⟩, ⟨HO.out.1.elim HG.out.1 HAB.out (by rw [HG.out.2]; omega), by rw [List.length_append, HO.out.2]; rfl⟩, ⟨e3, by rw [e2, HG.out.2]⟩, HN4, ⟨Kd.R_step HR3.out (fun q_ hq hlt => HE4.out.block q_ hlt hq)⟩, ⟨?_⟩⟩
                  · rw [← HM.out, List.append_assoc]
                    congr 1
                    rw [show j - k = (j - (k + 1)) + 1 by omega]
                    conv => rhs; unfold minGo
                    rw [HG.out.2, HBE.out]
                    rfl
                  · have h1 := HE4.out.out (base := w.heap.size) HB3.out.size (fun q_ hT => by
                      have hw1 := HW1.out
                      rcases hT with rfl | ⟨i, hi, rfl⟩
                      · have := HN3.out.lo
                        omega
                      · have := HN3.out.los i (by rw [HG.out.2]; exact hi)
                        omega)
                    exact HB3.out.trans h1
                case measure => simp [intOf]; omega
          · have hk2 : k = n := by omega
            subst hk2
            have hfin : O = minGo k (nbsOf rows) := by
              have h1 := HM.out
              rw [Nat.sub_self] at h1
              simpa [minGo] using h1
            have HFI := Aside0.mk hfin
            clear hfin
            go_wp2
            go_ret
            exact ⟨_, rfl, by rw [← HFI.out]; exact Kd.R_mono HR.out (fun _ _ => trivial), HB.out⟩
    · have hms : minS a0_0 l0_1 = [] := if_neg hc
      rw [hms]
      have HNE := Aside0.mk hc
      clear hc hms
      go_enter Try.func37, Try.ntmps37
      generalize hcg : chk a0_0 l0_1 = cc at HNE HFC
      have hcc : (decide (cc = 0)) = false := by simpa using HNE.out
      have hcc2 : ¬ cc = 0 := HNE.out
      clear hcg
      go_wp2_with (
        refine goesL_ (some 9) rfl rfl Try.func22 (by kernel_rfl) rfl #[.agg #[.int .i64 a0_0, .slice A0_1 l0_1.length c0_1]] rfl byL ?_
        refine (graph_Check.calls kc a0_0 A0_1 c0_1 l0_1 cc _ (Kd.C_alloc HC0.out _) hc0_1 HFC.out).mono ?_
        rintro e w1 ⟨rfl, hb⟩
        refine ⟨_, rfl, ?_⟩
        have HB1 := Aside0.mk (below_step (below_alloc (Below.refl w.heap.size w) _) hb)
        clear hb)
      go_ret
      exact ⟨_, rfl, Kd.R_nil _ _ _ _ _, HB1.out⟩
  · cases h
end Go.Proofs.Ytnnknbghfbjcnaa.Print
