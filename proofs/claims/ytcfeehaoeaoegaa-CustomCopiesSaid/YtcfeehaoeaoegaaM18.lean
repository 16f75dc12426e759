/- Several texts of this claim in one: HMWt, HKNew. -/
import Derived.Test.YtcfeehaoeaoegaaHMWtR
import Derived.Test.YtcfeehaoeaoegaaM15
import Derived.Test.YtcfeehaoeaoegaaM17
import Derived.Test.YtcfeehaoeaoegaaHKNewR
import Derived.Test.YtcfeehaoeaoegaaM11
namespace Go.Proofs.Ytcfeehaoeaoegaa.Print
open Go.RowKit Go.Proofs.YtcfeehaoeaoegaaW.PrintWords Go.Proofs.YtcfeehaoeaoegaaW.PrintLast Go.Proofs.YtcfeehaoeaoegaaW.PrintMore
attribute [local go_sem] max2_int min2_int max_two min_two
set_option linter.unusedVariables false
set_option linter.unusedSimpArgs false

theorem goesV_ {P : Program} {ops : Array Oper} {Q : Exit → Act → World → Prop} {oi : Oper} {N : Option Tmp} {a : Act} {w : World} {K : Act → World → Prop} {f : FuncId} {fn : Func} {c : Operand} {asx : Array Operand} {ts : Array TypeId} (hf : P.funcs[f]? = some fn) (hname : (fn.name == "runtime.NumGoroutine") = false) (hb : fn.body.isSome = true) (args : Array Value)
  (hw : Region.wanted oi (yielded ops a.tmps) = true) (hN : oi.dst = N) (hop : oi.op = .call { callee := .value c, args := asx, argTypes := ts }) (hc : a.eval c = .func (.func f) #[] #[]) (hargs : asx.map a.eval = args)
  (h : Calls P f args w fun e w' => ∃ v, e = .returned v ∧ K (a.put N v) w') : if Region.wanted oi (yielded ops a.tmps) = true then Oper.wp P oi a w K Q else K (a.put N undef) w := by
 refine call_ f args hw hN ?_ h
 have he := enters_ hf hname hb args w
 unfold execOp
 simp [hop, resolve, Deferred.ofValue, invoke, hc, hargs, he]
def arcStep (arcs : List S38) (ws : List Int) (f0 : Int) (s : Int × Int) (i : Int) : Int × Int :=
 if ws.getD i.toNat 0 < 0 then s else if (rd_T38 arcs i).f0 = f0 then (min s.1 (ws.getD i.toNat 0), s.2) else (s.1, min s.2 (ws.getD i.toNat 0))
def arcsS (arcs : List S38) (ws : List Int) (f0 : Int) (l : List Int) : Int × Int := l.foldl (arcStep arcs ws f0) (mInf, mInf)
def lowStep (fnd : Int → Int → Int) (up dn : List Int) (f0 f1 : Int) (s : Int × Int) (x : Int) : Int × Int :=
 (min s.1 (over (dn.getD (fnd x f0).toNat 0) (up.getD (fnd x f1).toNat 0)), min s.2 (over (dn.getD (fnd x f1).toNat 0) (up.getD (fnd x f0).toNat 0)))
def weightsS (n : Nat) (arcs : List S38) (R : List Int) (S : HSt) (ws : List Int) (ar : List (List Int)) (up dn : List Int) (e : Nat) : Int × Int :=
 (lowerS S (e : Int)).foldl (lowStep (fun u v => (findS n R S u v).1) up dn (rd_T38 S.edges (e : Int)).f0 (rd_T38 S.edges (e : Int)).f1) (arcsS arcs ws (rd_T38 S.edges (e : Int)).f0 (ar.getD e []))
theorem getD_bound {l : List Int} (h : ∀ x ∈ l, 0 ≤ x ∧ x ≤ mInf) (i : Nat) : 0 ≤ l.getD i 0 ∧ l.getD i 0 ≤ mInf := by
 by_cases hi : i < l.length
 ·rw [List.getD_eq_getElem?_getD, List.getElem?_eq_getElem hi]
  exact h _ (List.getElem_mem hi)
 ·rw [List.getD_eq_getElem?_getD, List.getElem?_eq_none (by omega)]
  exact ⟨by decide, by decide⟩
structure WNeed (n : Nat) (arcs : List S38) (R : List Int) (S : HSt) (ws : List Int) (ar : List (List Int)) (up dn : List Int) (e : Nat) : Prop where
 he : e < S.edges.length
 hel : S.edges.length ≤ 1000000
 hal : arcs.length ≤ 1000000
 har : ar.length = S.edges.length
 hwl : ws.length = arcs.length
 hup : up.length = S.edges.length
 hdn : dn.length = S.edges.length
 hin : ∀ i ∈ ar.getD e [], 0 ≤ i ∧ i < (arcs.length : Int)
 hil : (ar.getD e []).length ≤ 1000000
 hub : ∀ x ∈ up, 0 ≤ x ∧ x ≤ mInf
 hdb : ∀ x ∈ dn, 0 ≤ x ∧ x ≤ mInf
 hlb : (lowerS S (e : Int)).length ≤ 1000000
 hlo : ∀ x ∈ lowerS S (e : Int), ∀ v, v = (rd_T38 S.edges (e : Int)).f0 ∨ v = (rd_T38 S.edges (e : Int)).f1 → 0 ≤ (findS n R S x v).1 ∧ (findS n R S x v).1 < (S.edges.length : Int)
set_option maxHeartbeats 3200000 in
set_option maxRecDepth 100000 in
theorem Metric_weights.calls {w : World} {q p n e : Nat} {arcs : List S38} {L R : List Int} {S : HSt} {ws : List Int} {ar : List (List Int)} {up dn : List Int} (hm : MetR w q p ws ar up dn) (hh : HierR w p n arcs L R S) (hR : R.length = n) (hok : HOk n S) (hend : ∀ a ∈ S.edges, 0 ≤ a.f0 ∧ a.f0 < (n : Int)) (hs : ∀ v, (S.downs.getD v []).length ≤ 1000000000) (hn : WNeed n arcs R S ws ar up dn e) :
  Calls Try.prog 64 #[.pointer (some ⟨q, 0, none⟩), .int .i64 (e : Int)] w fun ev w' => ev = .returned (.tuple #[.int .i64 (weightsS n arcs R S ws ar up dn e).1, .int .i64 (weightsS n arcs R S ws ar up dn e).2]) ∧ Below w.heap.size w w' := by
 have HM := Aside0.mk hm
 have HH := Aside0.mk hh
 have HN := Aside0.mk hn
 have HOK := Aside0.mk hok
 have HEND := Aside0.mk hend
 have HS := Aside0.mk hs
 have HQ0 : Aside0 (w.cell? ⟨q, 0, none⟩ = some (.pointer (some ⟨p, 0, none⟩))) := by
  obtain ⟨wA, wc, aA, ac, uA, uc, dA, dc, h1, _⟩ := hm.out
  exact ⟨(blk_cell h1 0).trans rfl⟩
 clear hm hh hn hok hend hs
 go_enter Try.func64, Try.ntmps64
 go_upto_region 1 with (fail)
 refine weights_region (W0 := w) (q := q) (p := p) (n := n) (e := e) (arcs := arcs) (L := L) (R := R) (S := S) HQ0.out HH.out HN.out.hal HN.out.hel HN.out.he ?_ (fun _ _ _ d _ h => by cases d <;> exact h) (below_drew (Below.refl _ _))
 intro w1 A c B C x21 x26 x28 x29 hb1 hB hC hr hlB hlC hne
 have HB := Aside0.mk hb1
 have HBK := Aside0.mk hB
 have HCK := Aside0.mk hC
 have HG := Aside0.mk hr
 clear hb1 hB hC hr hlB hlC hne
 unfold wF
 obtain ⟨A1, c1, hv, hc, hCA⟩ := Kd.R_reads HG.out
 injection hv with hv1 hv2 hv3
 subst hv1 hv3
 have HCA := Aside0.mk hCA
 clear hv2 hc hCA
 obtain ⟨wA, wc, aA, ac, uA, uc, dA, dc, hm1, hm2, hm3, hm4, hm5⟩ := (HM.out.below (Below.refl _ _)).out
 have hcm0 := pw_cell_below HB.out ((blk_cell hm1 0).trans rfl)
 have hcm1 := pw_cell_below HB.out ((blk_cell hm1 1).trans rfl)
 have hcm2 := pw_cell_below HB.out ((blk_cell hm1 2).trans rfl)
 have hcm3 := pw_cell_below HB.out ((blk_cell hm1 3).trans rfl)
 have hcm4 := pw_cell_below HB.out ((blk_cell hm1 4).trans rfl)
 have HCW := Aside0.mk (Kd.C_below hm2.1 HB.out)
 have HCR := Aside0.mk (Kd.C_below hm3.1 HB.out)
 have HCU := Aside0.mk (Kd.C_below hm4.1 HB.out)
 have HCD := Aside0.mk (Kd.C_below hm5.1 HB.out)
 clear hm1 hm2 hm3 hm4 hm5
 have hb0 := (blk_cell HBK.out 0).trans rfl
 have hb1 := (blk_cell HBK.out 1).trans rfl
 have he0 := (blk_cell HCK.out 0).trans rfl
 have he1 := (blk_cell HCK.out 1).trans rfl
 obtain ⟨f0, HF0⟩ : ∃ x, Aside0 ((rd_T38 S.edges (e : Int)).f0 = x) := ⟨_, ⟨rfl⟩⟩
 obtain ⟨f1, HF1⟩ : ∃ x, Aside0 ((rd_T38 S.edges (e : Int)).f1 = x) := ⟨_, ⟨rfl⟩⟩
 rw [HF0.out] at he0
 rw [HF1.out] at he1
 have her : e < ar.length := by have h1 := HN.out.har; have h2 := HN.out.he; omega
 obtain ⟨ad, cs, hA, _, ⟨Ai, xc, hcs, hci, hri⟩, hcell⟩ := Kd.C_get HCR.out [] (e : Int) (by omega) (by omega)
 have hcr := hcell 0 _ (by rw [hcs]; rfl)
 have hz : (Kd.slice 3 (Kd.int .i64)).sz = 1 := rfl
 rw [hz, Nat.mul_one, Nat.add_zero] at hcr
 simp only [Int.toNat_natCast] at hcr hri hci
 subst hA
 obtain ⟨l, HL⟩ : ∃ x, Aside0 (ar.getD e [] = x) := ⟨_, ⟨rfl⟩⟩
 rw [HL.out] at hcr hri hci
 have HRI := Aside0.mk hri
 have hll := HN.out.hil
 rw [HL.out] at hll
 clear hcs hcell hz hri hci
 go_wp2_with (fail)
 go_loopw [4, 5, 38] (fun u d i wr => ∃ j : Nat, i = .int .i64 (j : Int) ∧ j ≤ l.length ∧ u = .int .i64 (arcsS arcs ws f0 (l.take j)).1 ∧ d = .int .i64 (arcsS arcs ws f0 (l.take j)).2 ∧ Aside0 (Below w1.heap.size w1 wr)) (fun _ _ i _ => l.length - (intOf i).toNat)
 case atStart => exact ⟨0, rfl, Nat.zero_le _, rfl, rfl, ⟨Below.refl _ _⟩⟩
 case round =>
  obtain ⟨j, rfl, hj, hu, hd, HBR⟩ := hrel
  obtain ⟨sp, HSP⟩ : ∃ x, Aside0 (arcsS arcs ws f0 (l.take j) = x) := ⟨_, ⟨rfl⟩⟩
  obtain ⟨su, sd⟩ := sp
  rw [HSP.out] at hu hd
  subst hu hd
  replace hcm0 := pw_cell_below HBR.out hcm0
  replace hcm1 := pw_cell_below HBR.out hcm1
  replace hb0 := pw_cell_below HBR.out hb0
  replace hb1 := pw_cell_below HBR.out hb1
  replace he0 := pw_cell_below HBR.out he0
  replace he1 := pw_cell_below HBR.out he1
  replace hcr := pw_cell_below HBR.out hcr
  by_cases hjl : j < l.length
  ·have HIN := Aside0.mk (HN.out.hin (l.getD j 0) (by
    rw [HL.out, List.getD_eq_getElem?_getD, List.getElem?_eq_getElem hjl]
    exact List.getElem_mem hjl))
   rcases cells_of_C (Kd.C_below HRI.out HBR.out) with ⟨h0, _⟩ | ⟨_, lb, lo, hA1, hce⟩
   ·omega
   subst hA1
   have hcx := hce j hjl
   obtain ⟨x, HX⟩ : ∃ x, Aside0 (l.getD j 0 = x) := ⟨_, ⟨rfl⟩⟩
   rw [HX.out] at hcx HIN
   clear hce
   obtain ⟨m, rfl⟩ := Int.eq_ofNat_of_zero_le HIN.out.1
   have hma : m < arcs.length := by have := HIN.out.2; omega
   have hmw : m < ws.length := by have := HN.out.hwl; omega
   rcases cells_of_C (Kd.C_below HCW.out HBR.out) with ⟨h0, _⟩ | ⟨_, wb, wo, hA1, hce⟩
   ·omega
   subst hA1
   have hcw := hce m hmw
   obtain ⟨y, HY⟩ : ∃ x, Aside0 (ws.getD m 0 = x) := ⟨_, ⟨rfl⟩⟩
   rw [HY.out] at hcw
   clear hce
   have HST : Aside0 (arcsS arcs ws f0 (l.take (j + 1)) = arcStep arcs ws f0 (su, sd) (m : Int)) := by
    refine ⟨?_⟩
    rw [take_getD_succ hjl, HX.out]
    show List.foldl _ _ _ = _
    rw [List.foldl_append]
    show arcStep arcs ws f0 (arcsS arcs ws f0 (l.take j)) (m : Int) = _
    rw [HSP.out]
   by_cases hy : y < 0
   ·have HR : Aside0 (arcsS arcs ws f0 (l.take (j + 1)) = (su, sd)) := ⟨by rw [HST.out]; unfold arcStep; rw [Int.toNat_natCast, HY.out, if_pos hy]⟩
    go_wp2_with (fail)
    go_roundw
    case rel => exact ⟨j + 1, by go_num, by omega, by rw [HR.out], by rw [HR.out], HBR⟩
    case measure => simp [intOf]; omega
   ·obtain ⟨ae, hA2, hx0, _⟩ := at_T38 (Kd.C_below HCA.out HBR.out) (m : Int) (by omega) (by omega)
    obtain ⟨ae2, hA3, hz0, _⟩ := at_T38 (Kd.C_below HCA.out HBR.out) 0 (by omega) (by omega)
    obtain rfl : ae2 = ae := Option.some.inj (hA3.symm.trans hA2)
    have hsp := spot_of_cell (ad := ae2) (by exact hz0)
    obtain ⟨ab, ao, asb⟩ := ae2
    injection hsp with hz1 hz2 hes
    clear hz1 hz2 hz0 hA3
    subst hes
    simp only [Addr.add_lit, Int.toNat_natCast] at hx0
    subst hA2
    obtain ⟨fx, HFX⟩ : ∃ x, Aside0 ((rd_T38 arcs (m : Int)).f0 = x) := ⟨_, ⟨rfl⟩⟩
    rw [HFX.out] at hx0
    have hmi : (m : Int) < (arcs.length : Int) := by omega
    go_wp2_with (fail)
    refine s_ (fun w' => w'.cell? ⟨B, 1, none⟩ = some (.slice (some ⟨ab, ao, none⟩) arcs.length c) ∧ w'.cell? ⟨ab, ao + m * 2, none⟩ = some (.int .i64 fx) ∧ w'.cell? ⟨C, 0, none⟩ = some (.int .i64 f0)) [] ⟨hb1, hx0, he0⟩ (fun hHeld => ?_)
    refine p_ 0 61 ?_
    refine t3_ 1 62 hHeld ?_
    refine p_ 2 63 ?_
    refine p_ 3 64 ?_
    refine p_ 4 65 ?_
    refine t3_ 5 66 hHeld ?_
    refine p_ 6 67 ?_
    refine t3_ 7 68 hHeld ?_
    refine p_ 8 69 ?_
    refine p_ 9 60 ?_
    refine d_ ?_
    have hdr : Below wr.heap.size wr wr.drew := below_drew (Below.refl _ _)
    replace hcm1 := pw_cell_below hdr hcm1
    replace hcw := pw_cell_below hdr hcw
    replace HBR := Aside0.mk (below_then HBR.out HBR.out.size hdr)
    clear hcm0 hb0 hb1 he0 he1 hcr hHeld hx0 hdr
    by_cases hfx : fx = f0
    ·by_cases hys : y < su
     ·have HR : Aside0 (arcsS arcs ws f0 (l.take (j + 1)) = (y, sd)) := ⟨by rw [HST.out]; unfold arcStep; rw [Int.toNat_natCast, HY.out, HFX.out, if_neg (show ¬ y < 0 by omega), if_pos hfx]; rw [show min su y = y by omega]⟩
      go_wp2_with (fail)
      go_roundw
      case rel => exact ⟨j + 1, by go_num, by omega, by rw [HR.out], by rw [HR.out], HBR⟩
      case measure => simp [intOf]; omega
     ·have HR : Aside0 (arcsS arcs ws f0 (l.take (j + 1)) = (su, sd)) := ⟨by rw [HST.out]; unfold arcStep; rw [Int.toNat_natCast, HY.out, HFX.out, if_neg (show ¬ y < 0 by omega), if_pos hfx]; rw [show min su y = su by omega]⟩
      go_wp2_with (fail)
      go_roundw
      case rel => exact ⟨j + 1, by go_num, by omega, by rw [HR.out], by rw [HR.out], HBR⟩
      case measure => simp [intOf]; omega
    ·by_cases hys : y < sd
     ·have HR : Aside0 (arcsS arcs ws f0 (l.take (j + 1)) = (su, y)) := ⟨by rw [HST.out]; unfold arcStep; rw [Int.toNat_natCast, HY.out, HFX.out, if_neg (show ¬ y < 0 by omega), if_neg hfx]; rw [show min sd y = y by omega]⟩
      go_wp2_with (fail)
      go_roundw
      case rel => exact ⟨j + 1, by go_num, by omega, by rw [HR.out], by rw [HR.out], HBR⟩
      case measure => simp [intOf]; omega
     ·have HR : Aside0 (arcsS arcs ws f0 (l.take (j + 1)) = (su, sd)) := ⟨by rw [HST.out]; unfold arcStep; rw [Int.toNat_natCast, HY.out, HFX.out, if_neg (show ¬ y < 0 by omega), if_neg hfx]; rw [show min sd y = sd by omega]⟩
      go_wp2_with (fail)
      go_roundw
      case rel => exact ⟨j + 1, by go_num, by omega, by rw [HR.out], by rw [HR.out], HBR⟩
      case measure => simp [intOf]; omega
  ·obtain rfl : j = l.length := by omega
   rw [List.take_length] at HSP
   have HBW := Aside0.mk (below_then HB.out HB.out.size HBR.out)
   clear hb0 hb1 hcr
   go_wp2_with (fail)
   refine (Hier_Lower.calls (HH.out.below HBW.out) HOK.out HEND.out HS.out (e : Int)).mono ?_
   rintro ev w3 ⟨v, rfl, hr3, hb3⟩
   have HR3 := Aside0.mk hr3
   replace HBR := Aside0.mk (below_then HBR.out HBR.out.size hb3)
   replace HBW := Aside0.mk (below_then HBW.out HBW.out.size hb3)
   replace hcm0 := pw_cell_below hb3 hcm0
   replace hcm1 := pw_cell_below hb3 hcm1
   replace he0 := pw_cell_below hb3 he0
   replace he1 := pw_cell_below hb3 he1
   clear hr3 hb3
   obtain ⟨A3, c3, rfl⟩ := Kd.R_slice HR3.out
   have HB3 := HBR
   go_wp2_with (fail)
   obtain ⟨ll, HLL⟩ : ∃ x, Aside0 (lowerS S (e : Int) = x) := ⟨_, ⟨rfl⟩⟩
   rw [HLL.out] at HR3 ⊢
   obtain ⟨A4, c4, hv4, hc4, hC4⟩ := Kd.R_reads HR3.out
   injection hv4 with hv1 hv2 hv3
   subst hv1 hv3
   have HC4 := Aside0.mk hC4
   clear hv2 hc4 hC4
   obtain ⟨g, HG2⟩ : ∃ g, Aside0 (g = lowStep (fun u v => (findS n R S u v).1) up dn f0 f1) := ⟨_, ⟨rfl⟩⟩
   go_loopw [4, 5, 87] (fun u d i wr => ∃ j : Nat, i = .int .i64 (j : Int) ∧ j ≤ ll.length ∧ u = .int .i64 ((ll.take j).foldl g (su, sd)).1 ∧ d = .int .i64 ((ll.take j).foldl g (su, sd)).2 ∧ Aside0 (Below w3.heap.size w3 wr)) (fun _ _ i _ => ll.length - (intOf i).toNat)
   case atStart => exact ⟨0, rfl, Nat.zero_le _, rfl, rfl, ⟨Below.refl _ _⟩⟩
   case round =>
    obtain ⟨j, rfl, hj, hu, hd, HB4⟩ := hrel
    obtain ⟨sp, HSQ⟩ : ∃ x, Aside0 ((ll.take j).foldl g (su, sd) = x) := ⟨_, ⟨rfl⟩⟩
    obtain ⟨tu, td⟩ := sp
    rw [HSQ.out] at hu hd
    subst hu hd
    have hllb : ll.length ≤ 1000000 := by rw [← HLL.out]; exact HN.out.hlb
    replace hcm0 := pw_cell_below HB4.out hcm0
    replace he0 := pw_cell_below HB4.out he0
    replace he1 := pw_cell_below HB4.out he1
    have HBW4 := Aside0.mk (below_then HBW.out HBW.out.size HB4.out)
    by_cases hjl : j < ll.length
    ·have HLO := Aside0.mk (HN.out.hlo (ll.getD j 0) (by
      rw [HLL.out, List.getD_eq_getElem?_getD, List.getElem?_eq_getElem hjl]
      exact List.getElem_mem hjl))
     rw [HF0.out, HF1.out] at HLO
     rcases cells_of_C (Kd.C_below HC4.out HB4.out) with ⟨h0, _⟩ | ⟨_, lb, lo, hA1, hce⟩
     ·omega
     subst hA1
     have hcx := hce j hjl
     obtain ⟨x, HX⟩ : ∃ x, Aside0 (ll.getD j 0 = x) := ⟨_, ⟨rfl⟩⟩
     rw [HX.out] at hcx HLO
     clear hce
     go_wp2_with (fail)
     refine s_ (fun w' => w'.cell? ⟨q, 0, none⟩ = some (.pointer (some ⟨p, 0, none⟩)) ∧ w'.cell? ⟨C, 0, none⟩ = some (.int .i64 f0)) [] ⟨hcm0, he0⟩ (fun hHeld => ?_)
     refine p_ 0 92 ?_
     refine p_ 1 93 ?_
     refine p_ 2 94 ?_
     refine t2_ 3 95 hHeld ?_
     refine p_ 4 96 ?_
     refine p_ 5 97 ?_
     refine t2_ 6 98 hHeld ?_
     refine o_ 7 99 (fun K hK => ?_)
     refine goes_ Try.func17 (by kernel_rfl) rfl #[.pointer (some ⟨p, 0, none⟩), .int .i64 x, .int .i64 f0] (by rfl) rfl rfl byL ?_
     refine (Hier_Find.calls (HH.out.below (below_then HBW4.out HBW4.out.size (below_drew (Below.refl _ _)))) hR x f0).mono ?_
     rintro ev w5 ⟨rfl, hb5⟩
     refine ⟨_, rfl, ?_⟩
     refine hK.out _ _ ⟨pw_cell_below hb5 hHeld.1, pw_cell_below hb5 hHeld.2⟩ (fun hHeld => ?_)
     clear hK K
     refine n_ 99 ?_
     refine p_ 8 91 ?_
     refine p_ 9 100 ?_
     refine p_ 10 101 ?_
     refine p_ 11 13 ?_
     refine p_ 12 14 ?_
     refine d_ ?_
     have hdr : Below wr.heap.size wr w5 := below_then (below_drew (Below.refl _ _)) (by exact Nat.le_refl _) hb5
     replace hcm0 := pw_cell_below hdr hcm0
     replace he0 := pw_cell_below hdr he0
     replace he1 := pw_cell_below hdr he1
     replace HB4 := Aside0.mk (below_then HB4.out HB4.out.size hdr)
     have HBW5 := Aside0.mk (below_then HBW4.out HBW4.out.size hdr)
     clear hb5 hdr hHeld hcx
     go_wp2_with (fail)
     refine s_ (fun w' => w'.cell? ⟨q, 0, none⟩ = some (.pointer (some ⟨p, 0, none⟩)) ∧ w'.cell? ⟨C, 1, none⟩ = some (.int .i64 f1)) [] ⟨hcm0, he1⟩ (fun hHeld => ?_)
     refine p_ 0 103 ?_
     refine p_ 1 104 ?_
     refine p_ 2 105 ?_
     refine t2_ 3 106 hHeld ?_
     refine p_ 4 107 ?_
     refine p_ 5 108 ?_
     refine t2_ 6 109 hHeld ?_
     refine o_ 7 110 (fun K hK => ?_)
     refine goes_ Try.func17 (by kernel_rfl) rfl #[.pointer (some ⟨p, 0, none⟩), .int .i64 x, .int .i64 f1] (by rfl) rfl rfl byL ?_
     refine (Hier_Find.calls (HH.out.below (below_then HBW5.out HBW5.out.size (below_drew (Below.refl _ _)))) hR x f1).mono ?_
     rintro ev w6 ⟨rfl, hb6⟩
     refine ⟨_, rfl, ?_⟩
     refine hK.out _ _ ⟨pw_cell_below hb6 hHeld.1, pw_cell_below hb6 hHeld.2⟩ (fun hHeld => ?_)
     clear hK K
     refine n_ 110 ?_
     refine p_ 8 102 ?_
     refine p_ 9 111 ?_
     refine p_ 10 112 ?_
     refine p_ 11 15 ?_
     refine p_ 12 16 ?_
     refine d_ ?_
     have hdr2 : Below w5.heap.size w5 w6 := below_then (below_drew (Below.refl _ _)) (by exact Nat.le_refl _) hb6
     replace HB4 := Aside0.mk (below_then HB4.out HB4.out.size hdr2)
     obtain ⟨a, ha⟩ := Int.eq_ofNat_of_zero_le (HLO.out f0 (.inl rfl)).1
     obtain ⟨b, hb⟩ := Int.eq_ofNat_of_zero_le (HLO.out f1 (.inr rfl)).1
     have hal2 := (HLO.out f0 (.inl rfl)).2
     have hbl2 := (HLO.out f1 (.inr rfl)).2
     rw [ha] at hal2
     rw [hb] at hbl2
     have hue := HN.out.hup
     have hde := HN.out.hdn
     have HDB : Aside0 (∀ i : Nat, 0 ≤ dn.getD i 0 ∧ dn.getD i 0 ≤ mInf) := ⟨getD_bound HN.out.hdb⟩
     have HUB : Aside0 (∀ i : Nat, 0 ≤ up.getD i 0 ∧ up.getD i 0 ≤ mInf) := ⟨getD_bound HN.out.hub⟩
     replace hcm3 := pw_cell_below HB4.out (pw_cell_below HB3.out hcm3)
     replace hcm4 := pw_cell_below HB4.out (pw_cell_below HB3.out hcm4)
     rcases cells_of_C (Kd.C_below HCU.out (below_then HB3.out HB3.out.size HB4.out)) with ⟨h0, _⟩ | ⟨_, ub, uo, hA1, hcu⟩
     ·omega
     subst hA1
     rcases cells_of_C (Kd.C_below HCD.out (below_then HB3.out HB3.out.size HB4.out)) with ⟨h0, _⟩ | ⟨_, db, dof, hA1, hcd⟩
     ·omega
     subst hA1
     have ha3 : a < dn.length := by omega
     have hb3 : b < up.length := by omega
     have ha4 : a < up.length := by omega
     have hb4 : b < dn.length := by omega
     have hua := hcu a (by omega)
     have hub := hcu b (by omega)
     have hda := hcd a (by omega)
     have hdb := hcd b (by omega)
     clear hcu hcd hb6 hdr2 hHeld hue hde
     have HST : Aside0 ((ll.take (j + 1)).foldl g (su, sd) = (min tu (over (dn.getD a 0) (up.getD b 0)), min td (over (dn.getD b 0) (up.getD a 0)))) := ⟨by
      rw [take_getD_succ hjl, HX.out, List.foldl_append]
      show g ((ll.take j).foldl g (su, sd)) x = _
      rw [HSQ.out, HG2.out]
      show (min tu (over (dn.getD (findS n R S x f0).1.toNat 0) (up.getD (findS n R S x f1).1.toNat 0)), min td (over (dn.getD (findS n R S x f1).1.toNat 0) (up.getD (findS n R S x f0).1.toNat 0))) = _
      rw [ha, hb]
      simp only [Int.toNat_natCast]⟩
     have HB_da := Aside0.mk (HDB.out a)
     have HB_db := Aside0.mk (HDB.out b)
     have HB_ua := Aside0.mk (HUB.out a)
     have HB_ub := Aside0.mk (HUB.out b)
     generalize dn.getD a 0 = da at hda HST HB_da
     generalize dn.getD b 0 = db_ at hdb HST HB_db
     generalize up.getD a 0 = ua at hua HST HB_ua
     generalize up.getD b 0 = ub_ at hub HST HB_ub
     rw [ha, hb]
     go_wp2_with (fail)
     refine s_ (fun w' => w'.cell? ⟨q, 4, none⟩ = some (.slice (some ⟨db, dof, none⟩) dn.length dc) ∧ w'.cell? ⟨q, 3, none⟩ = some (.slice (some ⟨ub, uo, none⟩) up.length uc) ∧ w'.cell? ⟨db, dof + a, none⟩ = some (.int .i64 da) ∧ w'.cell? ⟨ub, uo + b, none⟩ = some (.int .i64 ub_)) [] ⟨hcm4, hcm3, hda, hub⟩ (fun hHeld => ?_)
     refine p_ 0 113 ?_
     refine p_ 1 114 ?_
     refine p_ 2 115 ?_
     refine p_ 3 116 ?_
     refine p_ 4 117 ?_
     refine t4_ 5 118 hHeld ?_
     refine p_ 6 119 ?_
     refine p_ 7 120 ?_
     refine t4_ 8 121 hHeld ?_
     refine p_ 9 122 ?_
     refine p_ 10 123 ?_
     refine p_ 11 124 ?_
     refine t4_ 12 125 hHeld ?_
     refine p_ 13 126 ?_
     refine p_ 14 127 ?_
     refine t4_ 15 128 hHeld ?_
     refine o_ 16 129 (fun K hK => ?_)
     refine goesV_ Try.func74 (by kernel_rfl) rfl #[.int .i64 da, .int .i64 ub_] (by rfl) rfl rfl rfl byL ?_
     refine (weights_over.calls _ _ HB_da.out HB_ub.out _).mono ?_
     rintro ev wz ⟨rfl, rfl⟩
     refine ⟨_, rfl, ?_⟩
     refine hK.out _ _ hHeld (fun hHeld => ?_)
     clear hK K
     refine n_ 129 ?_
     refine p_ 17 130 ?_
     refine p_ 18 4 ?_
     refine d_ ?_
     obtain ⟨t1, HT1⟩ : ∃ t, Aside0 (min tu (over da ub_) = t) := ⟨_, ⟨rfl⟩⟩
     have ht1 : (if over da ub_ < tu then over da ub_ else tu) = t1 := by rw [← HT1.out]; split <;> omega
     rw [ht1]
     rw [HT1.out] at HST
     clear ht1
     have hdr3 : Below w6.heap.size w6 w6.drew := below_drew (Below.refl _ _)
     replace HB4 := Aside0.mk (below_then HB4.out HB4.out.size hdr3)
     replace hcm3 := pw_cell_below hdr3 hcm3
     replace hcm4 := pw_cell_below hdr3 hcm4
     replace hua := pw_cell_below hdr3 hua
     replace hdb := pw_cell_below hdr3 hdb
     clear hdr3 hHeld hda hub
     go_wp2_with (fail)
     refine s_ (fun w' => w'.cell? ⟨q, 4, none⟩ = some (.slice (some ⟨db, dof, none⟩) dn.length dc) ∧ w'.cell? ⟨q, 3, none⟩ = some (.slice (some ⟨ub, uo, none⟩) up.length uc) ∧ w'.cell? ⟨db, dof + b, none⟩ = some (.int .i64 db_) ∧ w'.cell? ⟨ub, uo + a, none⟩ = some (.int .i64 ua)) [] ⟨hcm4, hcm3, hdb, hua⟩ (fun hHeld => ?_)
     refine p_ 0 131 ?_
     refine p_ 1 132 ?_
     refine p_ 2 133 ?_
     refine p_ 3 134 ?_
     refine p_ 4 135 ?_
     refine t4_ 5 136 hHeld ?_
     refine p_ 6 137 ?_
     refine p_ 7 138 ?_
     refine t4_ 8 139 hHeld ?_
     refine p_ 9 140 ?_
     refine p_ 10 141 ?_
     refine p_ 11 142 ?_
     refine t4_ 12 143 hHeld ?_
     refine p_ 13 144 ?_
     refine p_ 14 145 ?_
     refine t4_ 15 146 hHeld ?_
     refine o_ 16 147 (fun K hK => ?_)
     refine goesV_ Try.func74 (by kernel_rfl) rfl #[.int .i64 db_, .int .i64 ua] (by rfl) rfl rfl rfl byL ?_
     refine (weights_over.calls _ _ HB_db.out HB_ua.out _).mono ?_
     rintro ev wz ⟨rfl, rfl⟩
     refine ⟨_, rfl, ?_⟩
     refine hK.out _ _ hHeld (fun hHeld => ?_)
     clear hK K
     refine n_ 147 ?_
     refine p_ 17 148 ?_
     refine p_ 18 5 ?_
     refine d_ ?_
     obtain ⟨t2, HT2⟩ : ∃ t, Aside0 (min td (over db_ ua) = t) := ⟨_, ⟨rfl⟩⟩
     have ht2 : (if over db_ ua < td then over db_ ua else td) = t2 := by rw [← HT2.out]; split <;> omega
     rw [ht2]
     rw [HT2.out] at HST
     have hdr4 : Below w6.drew.heap.size w6.drew w6.drew.drew := below_drew (Below.refl _ _)
     replace HB4 := Aside0.mk (below_then HB4.out HB4.out.size hdr4)
     clear hHeld hdr4 hcm3 hcm4 hua hdb ht2
     go_wp2_with (fail)
     go_roundw
     case rel => exact ⟨j + 1, by go_num, by omega, by rw [HST.out], by rw [HST.out], HB4⟩
     case measure => simp [intOf]; omega
    ·obtain rfl : j = ll.length := by omega
     rw [List.take_length] at HSQ
     have HFIN : Aside0 (weightsS n arcs R S ws ar up dn e = (tu, td)) := ⟨by unfold weightsS; rw [HLL.out, HF0.out, HF1.out, HL.out, HSP.out, ← HG2.out]; exact HSQ.out⟩
     clear hcm0 he0 he1
     go_wp2
     go_ret2
     exact ⟨by rw [HFIN.out]; rfl, HBW4.out⟩
end Go.Proofs.Ytcfeehaoeaoegaa.Print
namespace Go.Proofs.Ytcfeehaoeaoegaa.Print
open Go.RowKit Go.Proofs.YtcfeehaoeaoegaaW.PrintWords Go.Proofs.YtcfeehaoeaoegaaW.PrintLast Go.Proofs.YtcfeehaoeaoegaaW.PrintMore
set_option linter.unusedVariables false
set_option linter.unusedSimpArgs false

theorem below_tr {B : Nat} {w w1 w2 : World} (h : Below B w w1) (k : Below B w1 w2) : Below B w w2 := ⟨k.os.trans h.os, k.tape.trans h.tape, k.output.trans h.output, Nat.le_trans h.size k.size, fun j hj => (k.block j hj).trans (h.block j hj)⟩
theorem RowsIs.reads {w : World} {base B t : Nat} {o : Tags} {vs : Nat → Value} {rs : List (List Int)} (h : RowsIs w base B t o vs rs) (hl : rs.length ≤ 1000000000) : Kd.C (Kd.slice 3 (Kd.int .i64)) w (some ⟨B, 0, none⟩) rs.length rs := by
 refine ⟨rfl, by omega, fun _ => ⟨_, rfl, fun j p hj => ?_⟩⟩
 have hjl : j < rs.length := (List.getElem?_eq_some_iff.1 hj).1
 have hp : rs.getD j [] = p := by rw [List.getD_eq_getElem?_getD, hj]; rfl
 have hr := h.row j hjl
 rw [hp] at hr
 obtain ⟨A, c, hv, hc, hC⟩ := Kd.R_reads hr
 refine ⟨[vs j], rfl, ⟨A, c, by rw [hv], hc, hC⟩, fun i u hu => ?_⟩
 have hi : i = 0 := by
  rcases Nat.eq_zero_or_pos i with h0 | h0
  ·exact h0
  ·rw [List.getElem?_eq_none (by simp; omega)] at hu
   cases hu
 subst hi
 have hu' : vs j = u := by simpa using hu
 subst hu'
 show w.cell? ((⟨B, 0, none⟩ : Addr).add (j * 1 + 0)) = _
 rw [Addr.add_lit, Nat.mul_one, Nat.add_zero, Nat.zero_add]
 exact h.cell j hjl
theorem EIs.reads {w : World} {base p Bh : Nat} {o : Tags} {n : Nat} {gv ov rv ev : Value} {mb Bu cu Bd cd : Nat} {vu vd vh : Nat → Value} {arcs : List S38} {L R : List Int} {H : List (List Int)} {S : HSt} (h : EIs w base p Bh o n gv ov rv ev mb Bu cu Bd cd vu vd vh arcs L R H S) (hn : n ≤ 1000) (hcu : n ≤ cu) (hcd : n ≤ cd) : HierR w p n arcs L R S := by
 obtain ⟨gA, gc, hg, hgc, hgC⟩ := Kd.R_reads h.red.arc
 obtain ⟨oA, oc, ho, hoc, hoC⟩ := Kd.R_reads h.red.ord
 obtain ⟨rA, rc, hr, hrc, hrC⟩ := Kd.R_reads h.red.rnk
 obtain ⟨eA, ec, he, hec, heC⟩ := Kd.R_reads h.hier.ed
 have hb := h.hier.blk
 rw [hg, ho, hr, he] at hb
 have hlu := h.hier.lenu
 have hld := h.hier.lend
 exact ⟨gA, gc, oA, oc, rA, rc, eA, ec, mb, some ⟨Bu, 0, none⟩, cu, some ⟨Bd, 0, none⟩, cd, by rw [hlu, hld]; exact hb, ⟨hgC, hgc⟩, ⟨hoC, hoc⟩, ⟨hrC, hrc⟩, ⟨heC, hec⟩, h.hier.mp, ⟨h.hier.up.reads (by omega), by omega⟩, ⟨h.hier.down.reads (by omega), by omega⟩⟩
def hst0 (n : Nat) : HSt := ⟨[], [], List.replicate n [], List.replicate n []⟩
def hierS (n : Nat) (arcs : List S38) (L : List Int) : HSt := elimS n L (ranksTo L L.length) (nbRows n arcs) (hst0 n)
def newErr (N : Int) (arcs : List S38) (L : List Int) : Int := if chk N arcs ≠ 0 then chk N arcs else ordGo N L.length [] L

set_option maxHeartbeats 3200000 in
set_option maxRecDepth 100000 in
theorem contract_New.calls {w : World} {N : Int} {gA : Option Addr} {gc : Nat} {arcs : List S38} {lA : Option Addr} {lc : Nat} {L : List Int} (hg : Kd.C k38 w gA arcs.length arcs) (hgc : arcs.length ≤ gc) (hl : Kd.C (Kd.int .i64) w lA L.length L) (hlc : L.length ≤ lc)
  (hN : N ≤ 1000 ∨ N > 1048576) (hal : arcs.length ≤ 1000000) (hll : L.length ≤ 1000000) :
  Calls Try.prog 14 #[.agg #[.int .i64 N, .slice gA arcs.length gc], .slice lA L.length lc] w fun e w' => Below w.heap.size w w' ∧
   ((newErr N arcs L ≠ 0 ∧ e = .returned (.tuple #[.pointer none, .int .i64 (newErr N arcs L)])) ∨
    (newErr N arcs L = 0 ∧ ∃ p, e = .returned (.tuple #[.pointer (some ⟨p, 0, none⟩), .int .i64 0]) ∧ HierR w' p N.toNat arcs L (ranksTo L L.length) (hierS N.toNat arcs L))) := by
 obtain ⟨kc, hkc⟩ := graph_Check.ev N arcs (by omega)
 have HKC := Aside0.mk (hkc kc (Nat.le_refl _))
 have HG := Aside0.mk hg
 have HL := Aside0.mk hl
 have HGC := Aside0.mk hgc
 have HLC := Aside0.mk hlc
 clear hg hl hgc hlc hkc
 go_enter Try.func14, Try.ntmps14
 go_upto_region 1 with (fail)
 have HBK := Aside0.mk (heap_alloc_new w (Obj.cells #[.int .i64 N, .slice gA arcs.length gc] 24))
 have HBE : Below w.heap.size w (w.alloc (Obj.cells #[.int .i64 N, .slice gA arcs.length gc] 24)) := (Below.refl _ _).alloc (Nat.le_refl _) _
 have HG1 := Aside0.mk (Kd.C_below HG.out HBE)
 have HL1 := Aside0.mk (Kd.C_below HL.out HBE)
 have HB1 := Aside0.mk HBE
 have HS1 : Aside0 ((w.alloc (Obj.cells #[.int .i64 N, .slice gA arcs.length gc] 24)).heap.size = w.heap.size + 1) := ⟨by show (w.heap.push _).size = _; rw [Array.size_push]⟩
 generalize w.alloc (Obj.cells #[.int .i64 N, .slice gA arcs.length gc] 24) = w1 at HBK HG1 HL1 HB1 HS1 ⊢
 clear HBE HG HL
 have hc0 := (blk_cell HBK.out 0).trans rfl
 have hc1 := (blk_cell HBK.out 1).trans rfl
 go_wp2_with (fail)
 refine (graph_Check.calls kc N gA gc arcs (chk N arcs) _ HG1.out HGC.out HKC.out).mono ?_
 rintro e w2 ⟨rfl, hb2⟩
 have HBK2 := Aside0.mk (blk_below HBK.out hb2)
 have HG2 := Aside0.mk (Kd.C_below HG1.out hb2)
 have HL2 := Aside0.mk (Kd.C_below HL1.out hb2)
 have HB2 := Aside0.mk (below_more HB1.out (Nat.le_refl _) hb2)
 have HS2 : Aside0 (w.heap.size + 1 ≤ w2.heap.size) := ⟨by rw [← HS1.out]; exact hb2.size⟩
 clear hc0 hc1 hb2 HBK HG1 HL1 HB1 HS1
 by_cases hchk : chk N arcs = 0
 ·rw [hchk]
  have hc0 := (blk_cell HBK2.out 0).trans rfl
  go_wp2_with (fail)
  refine (order_Check.calls N lA lc L (ordGo N L.length [] L) _ HL2.out HLC.out rfl).mono ?_
  rintro e w3 ⟨rfl, hb3⟩
  have HBK3 := Aside0.mk (blk_below HBK2.out hb3)
  have HG3 := Aside0.mk (Kd.C_below HG2.out hb3)
  have HL3 := Aside0.mk (Kd.C_below HL2.out hb3)
  have HB3 := Aside0.mk (below_more HB2.out (Nat.le_refl _) hb3)
  have HS3 : Aside0 (w.heap.size + 1 ≤ w3.heap.size) := ⟨Nat.le_trans HS2.out hb3.size⟩
  clear hc0 hb3 HBK2 HG2 HL2 HB2 HS2
  by_cases hord : ordGo N L.length [] L = 0
  ·rw [hord]
   obtain ⟨hN0, hN1, _⟩ := chk_ok hchk
   obtain ⟨n, rfl⟩ := Int.eq_ofNat_of_zero_le hN0
   have hn : n ≤ 1000 := by omega
   have hIO := isOrd_of hN0 hord
   rw [Int.toNat_natCast] at hIO
   have HIO := Aside0.mk hIO
   obtain ⟨kr, hkr⟩ := order_Ranks.ev L (by omega)
   have hkr2 := hkr kr (Nat.le_refl _)
   unfold ranksS at hkr2
   rw [if_pos (ord_self hN0 hord)] at hkr2
   have HKR := Aside0.mk hkr2
   have HNE : Aside0 (newErr (n : Int) arcs L = 0) := ⟨by unfold newErr; rw [if_neg (fun h => h hchk), hord]⟩
   have HCK := Aside0.mk hchk
   have HLL := Aside0.mk hll
   clear hkr hkr2 hIO hord hchk hN hN0 hN1
   have HINV : Aside0 (NInv w3 w3.drew w3.heap.size w.heap.size (fun _ => (0, 0)) n gA gc lA lc arcs L (ranksTo L L.length) 0 false false false undef undef undef undef undef undef) := ⟨⟨(blk_cell HBK3.out 0).trans rfl, (blk_cell HBK3.out 1).trans rfl, Kd.C_drew HG3.out, Kd.C_drew HL3.out, Nat.le_refl _, below_drew (Below.refl _ _), Nat.le_refl _, fun _ _ => rfl, fun h => absurd h (by decide), fun h => absurd h (by decide), fun h => absurd h (by decide), fun h => absurd h (by decide), fun h => absurd h (by decide), fun h => absurd h (by decide)⟩⟩
   go_upto_region 7 with (fail)
   refine new_region (by omega) hal HLL.out HLC.out HKR.out (fun _ _ _ d _ h => by cases d <;> exact h) ?_ HINV.out
   intro w4 o v25 v26 v28 v30 v31 v34 v37 he hinv
   obtain ⟨mb, rfl, hmp, hmt, hml⟩ := hinv.hM rfl
   obtain ⟨Bu, rfl, hub, hut, hul⟩ := hinv.hU rfl
   obtain ⟨Bd, rfl, hdb, hdt, hdl⟩ := hinv.hD rfl
   have hbp : Below w4.heap.size w4 (w4.alloc (.cells #[.int .i64 (n : Int), v25, v28, v30, .slice none 0 0, .map (some mb), .slice (some ⟨Bu, 0, none⟩) n n, .slice (some ⟨Bd, 0, none⟩) n n] 88 (0, 0))) := (Below.refl _ _).alloc (Nat.le_refl _) _
   have hmv := hinv.move hbp (6, 0)
   have hAr := hmv.hA (by decide)
   have hOr := hmv.hL (by decide)
   have hRr := hmv.hR (by decide)
   have hpb := heap_alloc_new w4 (.cells #[.int .i64 (n : Int), v25, v28, v30, .slice none 0 0, .map (some mb), .slice (some ⟨Bu, 0, none⟩) n n, .slice (some ⟨Bd, 0, none⟩) n n] 88 (0, 0))
   have hpt : tagNew o w4.heap.size (6, 0) w4.heap.size = (6, 0) := tagNew_new (Nat.le_refl _)
   have hub1 := (hbp.block Bu (hblk_lt hub)).trans hub
   have hdb1 := (hbp.block Bd (hblk_lt hdb)).trans hdb
   have hut1 : tagNew o w4.heap.size (6, 0) Bu = (2, 0) := by rw [tagNew_old (hblk_lt hub)]; exact hut
   have hdt1 : tagNew o w4.heap.size (6, 0) Bd = (3, 0) := by rw [tagNew_old (hblk_lt hdb)]; exact hdt
   have hmt1 : tagNew o w4.heap.size (6, 0) mb = (5, 0) := by rw [tagNew_old hmp.lt]; exact hmt
   have hH := Aside0.mk (⟨hpb, hpt, Kd.R_nil _ _ _ _ _, hmp.below hbp, hmt1, RowsIs.made hub1 hut1 hul, RowsIs.made hdb1 hdt1 hdl, List.length_replicate .., List.length_replicate .., hinv.blo, hml⟩ : HierIs _ w3.heap.size w4.heap.size (tagNew o w4.heap.size (6, 0)) n v25 v28 v30 (.slice none 0 0) mb Bu n Bd n (fun _ => .slice none 0 0) (fun _ => .slice none 0 0) (hst0 n))
   have hRI := Aside0.mk (⟨hAr, hOr, hRr⟩ : RIs _ w3.heap.size (tagNew o w4.heap.size (6, 0)) v25 v28 v30 arcs L (ranksTo L L.length))
   have hlow := Aside0.mk hmv.low
   have hbel := Aside0.mk hmv.bel
   clear hmv hAr hOr hRr hpb hpt hub1 hdb1 hut1 hdt1 hmt1 hbp hmp hmt hml hub hut hul hdb hdt hdl hinv HINV HKR
   generalize w4.alloc (.cells #[.int .i64 (n : Int), v25, v28, v30, .slice none 0 0, .map (some mb), .slice (some ⟨Bu, 0, none⟩) n n, .slice (some ⟨Bd, 0, none⟩) n n] 88 (0, 0)) = w5 at hH hRI hbel ⊢
   generalize w4.heap.size = p at hH hRI hlow ⊢
   go_wp2_with (fail)
   refine (Hier_eliminate.calls hH.out hRI.out hn hal HCK.out ?_ ?_ HIO.out.len ?_ ?_ hlow.out).mono ?_
   ·rw [ranksTo_length]; exact HIO.out.len
   ·intro v hv
    obtain ⟨j, hj, _, h2⟩ := ranks_val HIO.out.nd (fun v hv => by have := HIO.out.rng v hv; rw [HIO.out.len]; exact this) v (by rw [HIO.out.len]; exact hv)
    have h3 : (ranksTo L L.length).getD v 0 = (j : Int) := by rw [List.getD_eq_getElem?_getD, h2]; rfl
    rw [h3]
    have := HIO.out.len
    omega
   ·intro v hv
    have h1 : v < L.length := by rw [HIO.out.len]; exact hv
    have h2 := HIO.out.rng _ (List.getElem_mem h1)
    rw [List.getD_eq_getElem?_getD, List.getElem?_eq_getElem h1]
    exact h2
   ·exact ⟨List.length_replicate .., List.length_replicate .., Nat.le_refl _, fun r => by unfold hst0; by_cases hr : r < n <;> simp [hr], fun r => by unfold hst0; by_cases hr : r < n <;> simp [hr]⟩
   rintro e w6 ⟨rfl, hb6, Bh, o6, ev6, vu6, vd6, vh6, H6, hE6⟩
   have HR := Aside0.mk (hE6.reads hn (Nat.le_refl _) (Nat.le_refl _))
   have HBF : Aside0 (Below w.heap.size w w6) := ⟨below_then HB3.out (Nat.le_trans (Nat.le_succ _) HS3.out) (below_tr hbel.out hb6)⟩
   clear hb6 hE6 hH hRI hlow hbel
   go_wp2
   go_ret2
   exact ⟨HBF.out, Or.inr ⟨HNE.out, _, rfl, by rw [Int.toNat_natCast]; exact HR.out⟩⟩
  ·have HE : Aside0 (newErr N arcs L = ordGo N L.length [] L) := ⟨by unfold newErr; rw [if_neg (fun h => h hchk)]⟩
   have HNE : Aside0 (ordGo N L.length [] L ≠ 0) := ⟨hord⟩
   have hne : ¬ ordGo N L.length [] L = 0 := hord
   generalize ordGo N L.length [] L = oe at HE HNE hne ⊢
   go_wp2
   go_ret2
   exact ⟨HB3.out, Or.inl ⟨by rw [HE.out]; exact HNE.out, by rw [HE.out]; rfl⟩⟩
 ·have HE : Aside0 (newErr N arcs L = chk N arcs) := ⟨by unfold newErr; rw [if_pos hchk]⟩
  have HNE : Aside0 (chk N arcs ≠ 0) := ⟨hchk⟩
  generalize chk N arcs = oe at HE HNE hchk ⊢
  go_wp2
  go_ret2
  exact ⟨HB2.out, Or.inl ⟨by rw [HE.out]; exact HNE.out, by rw [HE.out]; rfl⟩⟩
end Go.Proofs.Ytcfeehaoeaoegaa.Print
