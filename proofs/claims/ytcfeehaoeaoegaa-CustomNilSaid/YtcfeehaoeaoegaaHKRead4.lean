/- The call of Lower of a hierarchy that is only read. -/
import Derived.Test.YtcfeehaoeaoegaaHKRead
namespace Go.Proofs.Ytcfeehaoeaoegaa.Print
open Go.RowKit Go.Proofs.YtcfeehaoeaoegaaW.PrintWords Go.Proofs.YtcfeehaoeaoegaaW.PrintLast Go.Proofs.YtcfeehaoeaoegaaW.PrintMore
set_option linter.unusedVariables false
set_option linter.unusedSimpArgs false

def lowG (S : HSt) (b : Int) (x : Int) : Bool := (mget S.num (x, b)).isSome
def lowerS (S : HSt) (e : Int) : List Int := if 0 ≤ e ∧ e < (S.edges.length : Int) then (S.downs.getD (rd_T38 S.edges e).f0.toNat []).filter (lowG S (rd_T38 S.edges e).f1) else []
theorem filter_take_succ {q : Int → Bool} {l : List Int} {k : Nat} (hk : k < l.length) : (l.take (k + 1)).filter q = if q (l.getD k 0) = true then (l.take k).filter q ++ [l.getD k 0] else (l.take k).filter q := by
  have h1 : l.take (k + 1) = l.take k ++ [l.getD k 0] := by
    rw [List.take_add_one]
    simp [hk]
  rw [h1, List.filter_append]
  cases h : q (l.getD k 0) with
  | true => rw [if_pos rfl]; simp only [List.filter_cons, h, List.filter_nil, if_true]
  | false => rw [if_neg (by decide)]; simp only [List.filter_cons, h, List.filter_nil, if_neg (show ¬ (false = true) by decide), List.append_nil]
set_option maxHeartbeats 3200000 in
set_option maxRecDepth 100000 in
theorem Hier_Lower.calls {w : World} {p n : Nat} {arcs : List S38} {L R : List Int} {S : HSt} (h : HierR w p n arcs L R S) (hok : HOk n S) (hend : ∀ a ∈ S.edges, 0 ≤ a.f0 ∧ a.f0 < (n : Int)) (hs : ∀ v, (S.downs.getD v []).length ≤ 1000000000) (e : Int) :
    Calls Try.prog 20 #[.pointer (some ⟨p, 0, none⟩), .int .i64 e] w fun ev w' => ∃ v : Value, ev = .returned v ∧ Kd.R (Kd.int .i64) 3 w' w.heap.size (fun _ => True) v (lowerS S e) ∧ Below w.heap.size w w' := by
  obtain ⟨gA, gc, oA, oc, rA, rc, eA, ec, mb, uA, uc, dA, dc, h1, _, _, _, h5, h6, _, h8⟩ := h.out
  have hc4 := (blk_cell h1 4).trans rfl
  have hc5 := (blk_cell h1 5).trans rfl
  have hc7 := (blk_cell h1 7).trans rfl
  have HCE := Aside0.mk h5.1
  have HCD := Aside0.mk h8.1
  have HM := Aside0.mk h6
  have HEND := Aside0.mk hend
  have HS := Aside0.mk hs
  rw [hok.lend] at hc7 HCD
  clear h h1 hok h5 h6 h8 hend hs
  go_enter Try.func20, Try.ntmps20
  by_cases h0 : e < 0
  · have HP : Aside0 (lowerS S e = []) := ⟨by unfold lowerS; rw [if_neg (by omega)]⟩
    go_wp2
    go_ret
    exact ⟨_, rfl, by rw [HP.out]; exact Kd.R_nil _ _ _ _ _, Below.refl _ _⟩
  · by_cases h2 : e ≥ (S.edges.length : Int)
    · have HP : Aside0 (lowerS S e = []) := ⟨by unfold lowerS; rw [if_neg (by omega)]⟩
      go_wp2
      go_ret
      exact ⟨_, rfl, by rw [HP.out]; exact Kd.R_nil _ _ _ _ _, Below.refl _ _⟩
    · obtain ⟨k, rfl⟩ := Int.eq_ofNat_of_zero_le (show 0 ≤ e by omega)
      have hk : k < S.edges.length := by omega
      obtain ⟨ae, hA2, hx00, hx10⟩ := at_T38 HCE.out (k : Int) (by omega) (by omega)
      have hmem : rd_T38 S.edges (k : Int) ∈ S.edges := by
        unfold rd_T38
        rw [Int.toNat_natCast, List.getD_eq_getElem?_getD, List.getElem?_eq_getElem hk]
        exact List.getElem_mem hk
      have hin := HEND.out _ hmem
      have HP : Aside0 (lowerS S (k : Int) = (S.downs.getD (rd_T38 S.edges (k : Int)).f0.toNat []).filter (lowG S (rd_T38 S.edges (k : Int)).f1)) := ⟨by unfold lowerS; rw [if_pos (by omega)]⟩
      generalize (rd_T38 S.edges (k : Int)).f1 = f1 at hx10 HP
      generalize (rd_T38 S.edges (k : Int)).f0 = f0 at hx00 HP hin
      clear hmem
      obtain ⟨a, rfl⟩ := Int.eq_ofNat_of_zero_le hin.1
      have ha : a < n := by omega
      obtain ⟨ad, cs, hA, _, ⟨Ai, xc, hcs, hci, hri⟩, hcell⟩ := Kd.C_get HCD.out [] (a : Int) (by omega) (by omega)
      have hcr0 := hcell 0 _ (by rw [hcs]; rfl)
      have hz : (Kd.slice 3 (Kd.int .i64)).sz = 1 := rfl
      rw [hz, Nat.mul_one, Nat.add_zero] at hcr0
      simp only [Int.toNat_natCast] at hcr0 hri hci hx00 hx10 HP
      subst hA hA2
      obtain ⟨x, HX⟩ : ∃ x, Aside0 (S.downs.getD a [] = x) := ⟨_, ⟨rfl⟩⟩
      rw [HX.out] at hcr0 hri hci HP
      have hxl : x.length ≤ 1000000000 := by rw [← HX.out]; exact HS.out a
      clear hcs hcell hz hin
      have HRI := Aside0.mk hri
      clear hri h0 h2
      have hC40 := Aside0.mk hc4
      have hC50 := Aside0.mk hc5
      have hC70 := Aside0.mk hc7
      have hX00 := Aside0.mk hx00
      have hX10 := Aside0.mk hx10
      have hCR0 := Aside0.mk hcr0
      have hx1 := hx10
      have hx0 := hx00
      have hcr := hcr0
      have hkz : decide ((k : Int) < 0) = false := by simp
      have hkz2 : decide ((k : Int) ≥ (S.edges.length : Int)) = false := by simp; omega
      go_upto_region 4 with (fail)
      clear hc5 hx1
      have hkd : decide (S.edges.length ≤ k) = false := by simp; omega
      simp only [hkd]
      clear hkd
      refine s_ (fun w' => w'.cell? ⟨p, 4, none⟩ = some (.slice (some ae) S.edges.length ec) ∧ w'.cell? ⟨p, 7, none⟩ = some (.slice (some ad) n dc) ∧ w'.cell? (ae.add (k * 2)) = some (.int .i64 (a : Int)) ∧ w'.cell? (ad.add a) = some (.slice Ai x.length xc)) [] ⟨hc4, hc7, hx0, hcr⟩ (fun hHeld => ?_)
      refine p_ 0 25 ?_
      refine p_ 1 26 ?_
      refine p_ 2 27 ?_
      refine t4_ 3 28 hHeld ?_
      refine p_ 4 29 ?_
      refine p_ 5 30 ?_
      refine p_ 6 31 ?_
      refine t4_ 7 32 hHeld ?_
      refine p_ 8 33 ?_
      refine p_ 9 34 ?_
      refine p_ 10 35 ?_
      refine t4_ 11 36 hHeld ?_
      refine p_ 12 37 ?_
      refine t4_ 13 38 hHeld ?_
      refine p_ 14 39 ?_
      refine p_ 15 40 ?_
      refine d_ ?_
      clear hHeld hc4 hc7 hx0 hcr hx00 hx10 hcr0
      have HB0 := Aside0.mk (below_drew (Below.refl w.heap.size w))
      generalize w.drew = wd at HB0 ⊢
      go_wp2
      go_loopw [5, 40] (fun o i wr => ∃ j : Nat, i = .int .i64 j ∧ j ≤ x.length ∧ Aside0 (Below w.heap.size w wr) ∧ Aside0 (Kd.R (Kd.int .i64) 3 wr w.heap.size (fun _ => True) o ((x.take j).filter (lowG S f1)))) (fun _ i _ => x.length - (intOf i).toNat)
      case atStart => exact ⟨0, rfl, Nat.zero_le _, HB0, ⟨by rw [List.take_zero]; exact Kd.R_nil _ _ _ _ _⟩⟩
      case round =>
        clear HB0
        obtain ⟨j, rfl, hj, HB, HO⟩ := hrel
        by_cases hlt : j < x.length
        · rcases cells_of_C (Kd.C_below HRI.out HB.out) with ⟨h0, _⟩ | ⟨_, br, orr, rfl, hce⟩
          · omega
          have hcx := hce j hlt
          have HF := filter_take_succ (q := lowG S f1) hlt
          have HFA := Aside0.mk HF
          clear hce HF
          have HV : ∃ v, Aside0 (x.getD j 0 = v) := ⟨_, ⟨rfl⟩⟩
          obtain ⟨v, HV⟩ := HV
          rw [HV.out] at hcx HFA
          have hc4 := pw_cell_below HB.out hC40.out
          have hc5 := pw_cell_below HB.out hC50.out
          have hx1 := pw_cell_below HB.out hX10.out
          have hmm := HM.out.below HB.out
          obtain ⟨A5, c5, rfl⟩ := Kd.R_slice HO.out
          cases hlk : lowG S f1 v with
          | true =>
            have hlk2 : (mget S.num (v, f1)).isSome = true := hlk
            rw [hlk, if_pos rfl] at HFA
            go_upto_region 7 with (fail)
            refine s_ (fun w' => w'.cell? ⟨p, 4, none⟩ = some (.slice (some ae) S.edges.length ec) ∧ w'.cell? ⟨p, 5, none⟩ = some (.map (some mb)) ∧ w'.cell? ⟨(ae.add (k * 2)).block, (ae.add (k * 2)).off + 1, none⟩ = some (.int .i64 f1) ∧ MapIs encP (Value.int .i64) w' mb S.num) [] ⟨hc4, hc5, hx1, hmm⟩ (fun hHeld => ?_)
            refine p_ 0 45 ?_
            refine p_ 1 46 ?_
            refine p_ 2 47 ?_
            refine t4_ 3 48 hHeld ?_
            refine p_ 4 49 ?_
            refine p_ 5 50 ?_
            refine p_ 6 51 ?_
            refine p_ 7 52 ?_
            refine t4_ 8 53 hHeld ?_
            refine p_ 9 54 ?_
            refine p_ 10 55 ?_
            refine p_ 11 56 ?_
            refine t4_ 12 57 hHeld ?_
            refine p_ 13 58 ?_
            refine take_ (i := 14) (N := some 59) (v := ?_) (a' := ?_) (bits 20 32767) rfl rfl (by kernel_rfl) (fun _ _ _ h => h) (Or.inl ⟨by rfl, ?_⟩) hHeld ?_ ?_; rotate_left; (·rintro w' ⟨s0, s1, s2, s3⟩; refine yields_lookup pKey Try.underlying86 0 zeroI_ (.tmp 48) (.tmp 58) s3 (v, f1) ?_ ?_ ?_ ?_ <;> rfl); rotate_left; (·simp only [putW]; rfl)
            refine p_ 15 44 ?_
            refine p_ 16 60 ?_
            refine p_ 17 61 ?_
            refine p_ 18 8 ?_
            refine p_ 19 9 ?_
            refine d_ ?_
            clear hHeld
            have HB2 := Aside0.mk (below_drew HB.out)
            have HO2 := Aside0.mk (Kd.R_drew HO.out)
            generalize wr.drew = wd2 at HB2 HO2 ⊢
            clear hc4 hc5 hx1 hmm hcx HB HO
            rw [hlk2]
            have hol : ((x.take j).filter (lowG S f1)).length ≤ 1000000000 := by
              have := List.length_filter_le (lowG S f1) (x.take j)
              have := List.length_take_le j x
              omega
            generalize (x.take j).filter (lowG S f1) = O at HFA HO2 hol ⊢
            go_wp2_with (
              refine Kd.R_append (Kd.int .i64) (w0 := w) w.heap.size (by rfl) (.tmp 63) (.tmp 65) 25 3 (.int .i64 0) 8 rfl Try.underlying25 info3 rfl (by decide) (by omega) (.slice A5 O.length c5) O v [.int .i64 v] (fun _ => True) (fun _ => False) rfl rfl ?aP (fun _ hk => hk.elim) ?aF ?aO ?aB ?aS ?aL ?_
              (case aP => exact rfl)
              (case aF => exact (fun _ _ => trivial))
              (case aO => exact Kd.R_mono HO2.out (fun _ _ => trivial))
              (case aB => exact HB2.out)
              (case aS => exact HB2.out.size)
              (case aL => omega)
              intro v9 w9 ho hb hg hat
              have HO9 := Aside0.mk ho
              have HB9 := Aside0.mk hb
              clear ho hb hg hat)
            go_roundw
            case rel => exact ⟨j + 1, by go_num, by omega, HB9, by rw [HFA.out]; exact HO9⟩
            case measure => simp [intOf]; omega
          | false =>
            have hlk2 : (mget S.num (v, f1)).isSome = false := hlk
            rw [hlk, if_neg (by decide)] at HFA
            go_upto_region 7 with (fail)
            refine s_ (fun w' => w'.cell? ⟨p, 4, none⟩ = some (.slice (some ae) S.edges.length ec) ∧ w'.cell? ⟨p, 5, none⟩ = some (.map (some mb)) ∧ w'.cell? ⟨(ae.add (k * 2)).block, (ae.add (k * 2)).off + 1, none⟩ = some (.int .i64 f1) ∧ MapIs encP (Value.int .i64) w' mb S.num) [] ⟨hc4, hc5, hx1, hmm⟩ (fun hHeld => ?_)
            refine p_ 0 45 ?_
            refine p_ 1 46 ?_
            refine p_ 2 47 ?_
            refine t4_ 3 48 hHeld ?_
            refine p_ 4 49 ?_
            refine p_ 5 50 ?_
            refine p_ 6 51 ?_
            refine p_ 7 52 ?_
            refine t4_ 8 53 hHeld ?_
            refine p_ 9 54 ?_
            refine p_ 10 55 ?_
            refine p_ 11 56 ?_
            refine t4_ 12 57 hHeld ?_
            refine p_ 13 58 ?_
            refine take_ (i := 14) (N := some 59) (v := ?_) (a' := ?_) (bits 20 32767) rfl rfl (by kernel_rfl) (fun _ _ _ h => h) (Or.inl ⟨by rfl, ?_⟩) hHeld ?_ ?_; rotate_left; (·rintro w' ⟨s0, s1, s2, s3⟩; refine yields_lookup pKey Try.underlying86 0 zeroI_ (.tmp 48) (.tmp 58) s3 (v, f1) ?_ ?_ ?_ ?_ <;> rfl); rotate_left; (·simp only [putW]; rfl)
            refine p_ 15 44 ?_
            refine p_ 16 60 ?_
            refine p_ 17 61 ?_
            refine p_ 18 8 ?_
            refine p_ 19 9 ?_
            refine d_ ?_
            clear hHeld
            have HB2 := Aside0.mk (below_drew HB.out)
            have HO2 := Aside0.mk (Kd.R_drew HO.out)
            generalize wr.drew = wd2 at HB2 HO2 ⊢
            clear hc4 hc5 hx1 hmm hcx HB HO
            rw [hlk2]
            go_wp2
            go_roundw
            case rel => exact ⟨j + 1, by go_num, by omega, HB2, by rw [HFA.out]; exact HO2⟩
            case measure => simp [intOf]; omega
        · have hje : j = x.length := by omega
          subst hje
          rw [List.take_length] at HO
          go_wp2
          go_ret
          exact ⟨_, rfl, by rw [HP.out]; exact HO.out, HB.out⟩
end Go.Proofs.Ytcfeehaoeaoegaa.Print
