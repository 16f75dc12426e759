/- Several texts of this claim in one: HKRead4, HXWith, HMWt. -/
import Derived.Test.YtfnophaiamkmpaaM11
import Derived.Test.YtfnophaiamkmpaaM1
import Derived.Test.YtfnophaiamkmpaaM0
import Derived.Test.YtfnophaiamkmpaaM5
import Derived.Test.YtfnophaiamkmpaaHMWtR
namespace Go.Proofs.Ytfnophaiamkmpaa.Print
open Go.RowKit Go.Proofs.YtfnophaiamkmpaaW.PrintWords Go.Proofs.YtfnophaiamkmpaaW.PrintLast Go.Proofs.YtfnophaiamkmpaaW.PrintMore
set_option linter.unusedVariables false
set_option linter.unusedSimpArgs false
def lowG (S : HSt) (b : Int) (x : Int) : Bool := (mget S.num (x, b)).isSome
def lowerS (S : HSt) (e : Int) : List Int := if 0 ≤ e ∧ e < (S.edges.length : Int) then (S.downs.getD (rd_T58 S.edges e).f0.toNat []).filter (lowG S (rd_T58 S.edges e).f1) else []
theorem filter_take_succ {q : Int → Bool} {l : List Int} {k : Nat} (hk : k < l.length) : (l.take (k + 1)).filter q = if q (l.getD k 0) = true then (l.take k).filter q ++ [l.getD k 0] else (l.take k).filter q := by
 have h1 : l.take (k + 1) = l.take k ++ [l.getD k 0] := by
  rw [List.take_add_one]
  simp [hk]
 rw [h1, List.filter_append]
 cases h : q (l.getD k 0) with
 | true => rw [if_pos rfl]; simp only [List.filter_cons, h, List.filter_nil, if_true]
 | false => rw [if_neg (by decide)]; simp only [List.filter_cons, h, List.filter_nil, if_neg (show ¬ (false = true) by decide), List.append_nil]
set_option maxHeartbeats 3200000 in
set_option maxRecDepth 100000 in
theorem Hier_Lower.calls {w : World} {p n : Nat} {arcs : List S58} {L R : List Int} {S : HSt} (h : HierR w p n arcs L R S) (hok : HOk n S) (hend : ∀ a ∈ S.edges, 0 ≤ a.f0 ∧ a.f0 < (n : Int)) (hs : ∀ v, (S.downs.getD v []).length ≤ 1000000000) (e : Int) :
  Calls Try.prog 82 #[.pointer (some ⟨p, 0, none⟩), .int .i64 e] w fun ev w' => ∃ v : Value, ev = .returned v ∧ Kd.R (Kd.int .i64) 3 w' w.heap.size (fun _ => True) v (lowerS S e) ∧ Below w.heap.size w w' := by
 obtain ⟨gA, gc, oA, oc, rA, rc, eA, ec, mb, uA, uc, dA, dc, h1, _, _, _, h5, h6, _, h8⟩ := h.out
 have hc4 := (blk_cell h1 4).trans rfl
 have hc5 := (blk_cell h1 5).trans rfl
 have hc7 := (blk_cell h1 7).trans rfl
 have HCE := Aside0.mk h5.1
 have HCD := Aside0.mk h8.1
 have HM := Aside0.mk h6
 have HEND := Aside0.mk hend
 have HS := Aside0.mk hs
 rw [hok.lend] at hc7 HCD
 clear h h1 hok h5 h6 h8 hend hs
 go_enter Try.func82, Try.ntmps82
 by_cases h0 : e < 0
 ·have HP : Aside0 (lowerS S e = []) := ⟨by unfold lowerS; rw [if_neg (by omega)]⟩
  go_wp2
  go_ret
  exact ⟨_, rfl, by rw [HP.out]; exact Kd.R_nil _ _ _ _ _, Below.refl _ _⟩
 ·by_cases h2 : e ≥ (S.edges.length : Int)
  ·have HP : Aside0 (lowerS S e = []) := ⟨by unfold lowerS; rw [if_neg (by omega)]⟩
   go_wp2
   go_ret
   exact ⟨_, rfl, by rw [HP.out]; exact Kd.R_nil _ _ _ _ _, Below.refl _ _⟩
  ·obtain ⟨k, rfl⟩ := Int.eq_ofNat_of_zero_le (show 0 ≤ e by omega)
   have hk : k < S.edges.length := by omega
   obtain ⟨ae, hA2, hx00, hx10⟩ := at_T58 HCE.out (k : Int) (by omega) (by omega)
   have hmem : rd_T58 S.edges (k : Int) ∈ S.edges := by
    unfold rd_T58
    rw [Int.toNat_natCast, List.getD_eq_getElem?_getD, List.getElem?_eq_getElem hk]
    exact List.getElem_mem hk
   have hin := HEND.out _ hmem
   have HP : Aside0 (lowerS S (k : Int) = (S.downs.getD (rd_T58 S.edges (k : Int)).f0.toNat []).filter (lowG S (rd_T58 S.edges (k : Int)).f1)) := ⟨by unfold lowerS; rw [if_pos (by omega)]⟩
   generalize (rd_T58 S.edges (k : Int)).f1 = f1 at hx10 HP
   generalize (rd_T58 S.edges (k : Int)).f0 = f0 at hx00 HP hin
   clear hmem
   obtain ⟨a, rfl⟩ := Int.eq_ofNat_of_zero_le hin.1
   have ha : a < n := by omega
   obtain ⟨ad, cs, hA, _, ⟨Ai, xc, hcs, hci, hri⟩, hcell⟩ := Kd.C_get HCD.out [] (a : Int) (by omega) (by omega)
   have hcr0 := hcell 0 _ (by rw [hcs]; rfl)
   have hz : (Kd.slice 3 (Kd.int .i64)).sz = 1 := rfl
   rw [hz, Nat.mul_one, Nat.add_zero] at hcr0
   simp only [Int.toNat_natCast] at hcr0 hri hci hx00 hx10 HP
   subst hA hA2
   obtain ⟨x, HX⟩ : ∃ x, Aside0 (S.downs.getD a [] = x) := ⟨_, ⟨rfl⟩⟩
   rw [HX.out] at hcr0 hri hci HP
   have hxl : x.length ≤ 1000000000 := by rw [← HX.out]; exact HS.out a
   clear hcs hcell hz hin
   have HRI := Aside0.mk hri
   clear hri h0 h2
   have hC40 := Aside0.mk hc4
   have hC50 := Aside0.mk hc5
   have hC70 := Aside0.mk hc7
   have hX00 := Aside0.mk hx00
   have hX10 := Aside0.mk hx10
   have hCR0 := Aside0.mk hcr0
   have hx1 := hx10
   have hx0 := hx00
   have hcr := hcr0
   have hkz : decide ((k : Int) < 0) = false := by simp
   have hkz2 : decide ((k : Int) ≥ (S.edges.length : Int)) = false := by simp; omega
   go_upto_region 4 with (fail)
   clear hc5 hx1
   have hkd : decide (S.edges.length ≤ k) = false := by simp; omega
   simp only [hkd]
   clear hkd
   refine s_ (fun w' => w'.cell? ⟨p, 4, none⟩ = some (.slice (some ae) S.edges.length ec) ∧ w'.cell? ⟨p, 7, none⟩ = some (.slice (some ad) n dc) ∧ w'.cell? (ae.add (k * 2)) = some (.int .i64 (a : Int)) ∧ w'.cell? (ad.add a) = some (.slice Ai x.length xc)) [] ⟨hc4, hc7, hx0, hcr⟩ (fun hHeld => ?_)
   refine p_ 0 25 ?_
   refine p_ 1 26 ?_
   refine p_ 2 27 ?_
   refine t4_ 3 28 hHeld ?_
   refine p_ 4 29 ?_
   refine p_ 5 30 ?_
   refine p_ 6 31 ?_
   refine t4_ 7 32 hHeld ?_
   refine p_ 8 33 ?_
   refine p_ 9 34 ?_
   refine p_ 10 35 ?_
   refine t4_ 11 36 hHeld ?_
   refine p_ 12 37 ?_
   refine t4_ 13 38 hHeld ?_
   refine p_ 14 39 ?_
   refine p_ 15 40 ?_
   refine d_ ?_
   clear hHeld hc4 hc7 hx0 hcr hx00 hx10 hcr0
   have HB0 := Aside0.mk (below_drew (Below.refl w.heap.size w))
   generalize w.drew = wd at HB0 ⊢
   go_wp2
   go_loopw [5, 40] (fun o i wr => ∃ j : Nat, i = .int .i64 j ∧ j ≤ x.length ∧ Aside0 (Below w.heap.size w wr) ∧ Aside0 (Kd.R (Kd.int .i64) 3 wr w.heap.size (fun _ => True) o ((x.take j).filter (lowG S f1)))) (fun _ i _ => x.length - (intOf i).toNat)
   case atStart => exact ⟨0, rfl, Nat.zero_le _, HB0, ⟨by rw [List.take_zero]; exact Kd.R_nil _ _ _ _ _⟩⟩
   case round =>
    clear HB0
    obtain ⟨j, rfl, hj, HB, HO⟩ := hrel
    by_cases hlt : j < x.length
    ·rcases cells_of_C (Kd.C_below HRI.out HB.out) with ⟨h0, _⟩ | ⟨_, br, orr, rfl, hce⟩
     ·omega
     have hcx := hce j hlt
     have HF := filter_take_succ (q := lowG S f1) hlt
     have HFA := Aside0.mk HF
     clear hce HF
     have HV : ∃ v, Aside0 (x.getD j 0 = v) := ⟨_, ⟨rfl⟩⟩
     obtain ⟨v, HV⟩ := HV
     rw [HV.out] at hcx HFA
     have hc4 := pw_cell_below HB.out hC40.out
     have hc5 := pw_cell_below HB.out hC50.out
     have hx1 := pw_cell_below HB.out hX10.out
     have hmm := HM.out.below HB.out
     obtain ⟨A5, c5, rfl⟩ := Kd.R_slice HO.out
     cases hlk : lowG S f1 v with
     | true =>
      have hlk2 : (mget S.num (v, f1)).isSome = true := hlk
      rw [hlk, if_pos rfl] at HFA
      go_upto_region 7 with (fail)
      refine s_ (fun w' => w'.cell? ⟨p, 4, none⟩ = some (.slice (some ae) S.edges.length ec) ∧ w'.cell? ⟨p, 5, none⟩ = some (.map (some mb)) ∧ w'.cell? ⟨(ae.add (k * 2)).block, (ae.add (k * 2)).off + 1, none⟩ = some (.int .i64 f1) ∧ MapIs encP (Value.int .i64) w' mb S.num) [] ⟨hc4, hc5, hx1, hmm⟩ (fun hHeld => ?_)
      refine p_ 0 45 ?_
      refine p_ 1 46 ?_
      refine p_ 2 47 ?_
      refine t4_ 3 48 hHeld ?_
      refine p_ 4 49 ?_
      refine p_ 5 50 ?_
      refine p_ 6 51 ?_
      refine p_ 7 52 ?_
      refine t4_ 8 53 hHeld ?_
      refine p_ 9 54 ?_
      refine p_ 10 55 ?_
      refine p_ 11 56 ?_
      refine t4_ 12 57 hHeld ?_
      refine p_ 13 58 ?_
      refine take_ (i := 14) (N := some 59) (v := ?_) (a' := ?_) (bits 20 32767) rfl rfl (by kernel_rfl) (fun _ _ _ h => h) (Or.inl ⟨by rfl, ?_⟩) hHeld ?_ ?_; rotate_left; (·rintro w' ⟨s0, s1, s2, s3⟩; refine yields_lookup pKey Try.underlying98 0 zeroI_ (.tmp 48) (.tmp 58) s3 (v, f1) ?_ ?_ ?_ ?_ <;> rfl); rotate_left; (·simp only [putW]; rfl)
      refine p_ 15 44 ?_
      refine p_ 16 60 ?_
      refine p_ 17 61 ?_
      refine p_ 18 8 ?_
      refine p_ 19 9 ?_
      refine d_ ?_
      clear hHeld
      have HB2 := Aside0.mk (below_drew HB.out)
      have HO2 := Aside0.mk (Kd.R_drew HO.out)
      generalize wr.drew = wd2 at HB2 HO2 ⊢
      clear hc4 hc5 hx1 hmm hcx HB HO
      rw [hlk2]
      have hol : ((x.take j).filter (lowG S f1)).length ≤ 1000000000 := by
       have := List.length_filter_le (lowG S f1) (x.take j)
       have := List.length_take_le j x
       omega
      generalize (x.take j).filter (lowG S f1) = O at HFA HO2 hol ⊢
      go_wp2_with (
       refine Kd.R_append (Kd.int .i64) (w0 := w) w.heap.size (by rfl) (.tmp 63) (.tmp 65) 25 3 (.int .i64 0) 8 rfl Try.underlying25 info3 rfl (by decide) (by omega) (.slice A5 O.length c5) O v [.int .i64 v] (fun _ => True) (fun _ => False) rfl rfl ?aP (fun _ hk => hk.elim) ?aF ?aO ?aB ?aS ?aL ?_
       (case aP => exact rfl)
       (case aF => exact (fun _ _ => trivial))
       (case aO => exact Kd.R_mono HO2.out (fun _ _ => trivial))
       (case aB => exact HB2.out)
       (case aS => exact HB2.out.size)
       (case aL => omega)
       intro v9 w9 ho hb hg hat
       have HO9 := Aside0.mk ho
       have HB9 := Aside0.mk hb
       clear ho hb hg hat)
      go_roundw
      case rel => exact ⟨j + 1, by go_num, by omega, HB9, by rw [HFA.out]; exact HO9⟩
      case measure => simp [intOf]; omega
     | false =>
      have hlk2 : (mget S.num (v, f1)).isSome = false := hlk
      rw [hlk, if_neg (by decide)] at HFA
      go_upto_region 7 with (fail)
      refine s_ (fun w' => w'.cell? ⟨p, 4, none⟩ = some (.slice (some ae) S.edges.length ec) ∧ w'.cell? ⟨p, 5, none⟩ = some (.map (some mb)) ∧ w'.cell? ⟨(ae.add (k * 2)).block, (ae.add (k * 2)).off + 1, none⟩ = some (.int .i64 f1) ∧ MapIs encP (Value.int .i64) w' mb S.num) [] ⟨hc4, hc5, hx1, hmm⟩ (fun hHeld => ?_)
      refine p_ 0 45 ?_
      refine p_ 1 46 ?_
      refine p_ 2 47 ?_
      refine t4_ 3 48 hHeld ?_
      refine p_ 4 49 ?_
      refine p_ 5 50 ?_
      refine p_ 6 51 ?_
      refine p_ 7 52 ?_
      refine t4_ 8 53 hHeld ?_
      refine p_ 9 54 ?_
      refine p_ 10 55 ?_
      refine p_ 11 56 ?_
      refine t4_ 12 57 hHeld ?_
      refine p_ 13 58 ?_
      refine take_ (i := 14) (N := some 59) (v := ?_) (a' := ?_) (bits 20 32767) rfl rfl (by kernel_rfl) (fun _ _ _ h => h) (Or.inl ⟨by rfl, ?_⟩) hHeld ?_ ?_; rotate_left; (·rintro w' ⟨s0, s1, s2, s3⟩; refine yields_lookup pKey Try.underlying98 0 zeroI_ (.tmp 48) (.tmp 58) s3 (v, f1) ?_ ?_ ?_ ?_ <;> rfl); rotate_left; (·simp only [putW]; rfl)
      refine p_ 15 44 ?_
      refine p_ 16 60 ?_
      refine p_ 17 61 ?_
      refine p_ 18 8 ?_
      refine p_ 19 9 ?_
      refine d_ ?_
      clear hHeld
      have HB2 := Aside0.mk (below_drew HB.out)
      have HO2 := Aside0.mk (Kd.R_drew HO.out)
      generalize wr.drew = wd2 at HB2 HO2 ⊢
      clear hc4 hc5 hx1 hmm hcx HB HO
      rw [hlk2]
      go_wp2
      go_roundw
      case rel => exact ⟨j + 1, by go_num, by omega, HB2, by rw [HFA.out]; exact HO2⟩
      case measure => simp [intOf]; omega
    ·have hje : j = x.length := by omega
     subst hje
     rw [List.take_length] at HO
     go_wp2
     go_ret
     exact ⟨_, rfl, by rw [HP.out]; exact HO.out, HB.out⟩
theorem take_getD_succ {l : List Int} {j : Nat} (h : j < l.length) : l.take (j + 1) = l.take j ++ [l.getD j 0] := by
 rw [List.take_add_one]
 simp [h]
attribute [local go_sem] max2_int min2_int max_two min_two
set_option linter.unusedVariables false
set_option linter.unusedSimpArgs false
theorem goesV_ {P : Program} {ops : Array Oper} {Q : Exit → Act → World → Prop} {oi : Oper} {N : Option Tmp} {a : Act} {w : World} {K : Act → World → Prop} {f : FuncId} {fn : Func} {c : Operand} {asx : Array Operand} {ts : Array TypeId} (hf : P.funcs[f]? = some fn) (hname : (fn.name == "runtime.NumGoroutine") = false) (hb : fn.body.isSome = true) (args : Array Value)
  (hw : Region.wanted oi (yielded ops a.tmps) = true) (hN : oi.dst = N) (hop : oi.op = .call { callee := .value c, args := asx, argTypes := ts }) (hc : a.eval c = .func (.func f) #[] #[]) (hargs : asx.map a.eval = args)
  (h : Calls P f args w fun e w' => ∃ v, e = .returned v ∧ K (a.put N v) w') : if Region.wanted oi (yielded ops a.tmps) = true then Oper.wp P oi a w K Q else K (a.put N undef) w := by
 refine call_ f args hw hN ?_ h
 have he := enters_ hf hname hb args w
 unfold execOp
 simp [hop, resolve, Deferred.ofValue, invoke, hc, hargs, he]
def arcStep (arcs : List S58) (ws : List Int) (f0 : Int) (s : Int × Int) (i : Int) : Int × Int :=
 if ws.getD i.toNat 0 < 0 then s else if (rd_T58 arcs i).f0 = f0 then (min s.1 (ws.getD i.toNat 0), s.2) else (s.1, min s.2 (ws.getD i.toNat 0))
def arcsS (arcs : List S58) (ws : List Int) (f0 : Int) (l : List Int) : Int × Int := l.foldl (arcStep arcs ws f0) (mInf, mInf)
def lowStep (fnd : Int → Int → Int) (up dn : List Int) (f0 f1 : Int) (s : Int × Int) (x : Int) : Int × Int :=
 (min s.1 (over (dn.getD (fnd x f0).toNat 0) (up.getD (fnd x f1).toNat 0)), min s.2 (over (dn.getD (fnd x f1).toNat 0) (up.getD (fnd x f0).toNat 0)))
def weightsS (n : Nat) (arcs : List S58) (R : List Int) (S : HSt) (ws : List Int) (ar : List (List Int)) (up dn : List Int) (e : Nat) : Int × Int :=
 (lowerS S (e : Int)).foldl (lowStep (fun u v => (findS n R S u v).1) up dn (rd_T58 S.edges (e : Int)).f0 (rd_T58 S.edges (e : Int)).f1) (arcsS arcs ws (rd_T58 S.edges (e : Int)).f0 (ar.getD e []))
theorem getD_bound {l : List Int} (h : ∀ x ∈ l, 0 ≤ x ∧ x ≤ mInf) (i : Nat) : 0 ≤ l.getD i 0 ∧ l.getD i 0 ≤ mInf := by
 by_cases hi : i < l.length
 ·rw [List.getD_eq_getElem?_getD, List.getElem?_eq_getElem hi]
  exact h _ (List.getElem_mem hi)
 ·rw [List.getD_eq_getElem?_getD, List.getElem?_eq_none (by omega)]
  exact ⟨by decide, by decide⟩
structure WNeed (n : Nat) (arcs : List S58) (R : List Int) (S : HSt) (ws : List Int) (ar : List (List Int)) (up dn : List Int) (e : Nat) : Prop where
 he : e < S.edges.length
 hel : S.edges.length ≤ 1000000
 hal : arcs.length ≤ 1000000
 har : ar.length = S.edges.length
 hwl : ws.length = arcs.length
 hup : up.length = S.edges.length
 hdn : dn.length = S.edges.length
 hin : ∀ i ∈ ar.getD e [], 0 ≤ i ∧ i < (arcs.length : Int)
 hil : (ar.getD e []).length ≤ 1000000
 hub : ∀ x ∈ up, 0 ≤ x ∧ x ≤ mInf
 hdb : ∀ x ∈ dn, 0 ≤ x ∧ x ≤ mInf
 hlb : (lowerS S (e : Int)).length ≤ 1000000
 hlo : ∀ x ∈ lowerS S (e : Int), ∀ v, v = (rd_T58 S.edges (e : Int)).f0 ∨ v = (rd_T58 S.edges (e : Int)).f1 → 0 ≤ (findS n R S x v).1 ∧ (findS n R S x v).1 < (S.edges.length : Int)
set_option maxHeartbeats 3200000 in
set_option maxRecDepth 100000 in
theorem Metric_weights.calls {w : World} {q p n e : Nat} {arcs : List S58} {L R : List Int} {S : HSt} {ws : List Int} {ar : List (List Int)} {up dn : List Int} (hm : MetR w q p ws ar up dn) (hh : HierR w p n arcs L R S) (hR : R.length = n) (hok : HOk n S) (hend : ∀ a ∈ S.edges, 0 ≤ a.f0 ∧ a.f0 < (n : Int)) (hs : ∀ v, (S.downs.getD v []).length ≤ 1000000000) (hn : WNeed n arcs R S ws ar up dn e) :
  Calls Try.prog 69 #[.pointer (some ⟨q, 0, none⟩), .int .i64 (e : Int)] w fun ev w' => ev = .returned (.tuple #[.int .i64 (weightsS n arcs R S ws ar up dn e).1, .int .i64 (weightsS n arcs R S ws ar up dn e).2]) ∧ Below w.heap.size w w' := by
 have HM := Aside0.mk hm
 have HH := Aside0.mk hh
 have HN := Aside0.mk hn
 have HOK := Aside0.mk hok
 have HEND := Aside0.mk hend
 have HS := Aside0.mk hs
 have HQ0 : Aside0 (w.cell? ⟨q, 0, none⟩ = some (.pointer (some ⟨p, 0, none⟩))) := by
  obtain ⟨wA, wc, aA, ac, uA, uc, dA, dc, h1, _⟩ := hm.out
  exact ⟨(blk_cell h1 0).trans rfl⟩
 clear hm hh hn hok hend hs
 go_enter Try.func69, Try.ntmps69
 go_upto_region 1 with (fail)
 refine weights_region (W0 := w) (q := q) (p := p) (n := n) (e := e) (arcs := arcs) (L := L) (R := R) (S := S) HQ0.out HH.out HN.out.hal HN.out.hel HN.out.he ?_ (fun _ _ _ d _ h => by cases d <;> exact h) (below_drew (Below.refl _ _))
 intro w1 A c B C x21 x26 x28 x29 hb1 hB hC hr hlB hlC hne
 have HB := Aside0.mk hb1
 have HBK := Aside0.mk hB
 have HCK := Aside0.mk hC
 have HG := Aside0.mk hr
 clear hb1 hB hC hr hlB hlC hne
 unfold wF
 obtain ⟨A1, c1, hv, hc, hCA⟩ := Kd.R_reads HG.out
 injection hv with hv1 hv2 hv3
 subst hv1 hv3
 have HCA := Aside0.mk hCA
 clear hv2 hc hCA
 obtain ⟨wA, wc, aA, ac, uA, uc, dA, dc, hm1, hm2, hm3, hm4, hm5⟩ := (HM.out.below (Below.refl _ _)).out
 have hcm0 := pw_cell_below HB.out ((blk_cell hm1 0).trans rfl)
 have hcm1 := pw_cell_below HB.out ((blk_cell hm1 1).trans rfl)
 have hcm2 := pw_cell_below HB.out ((blk_cell hm1 2).trans rfl)
 have hcm3 := pw_cell_below HB.out ((blk_cell hm1 3).trans rfl)
 have hcm4 := pw_cell_below HB.out ((blk_cell hm1 4).trans rfl)
 have HCW := Aside0.mk (Kd.C_below hm2.1 HB.out)
 have HCR := Aside0.mk (Kd.C_below hm3.1 HB.out)
 have HCU := Aside0.mk (Kd.C_below hm4.1 HB.out)
 have HCD := Aside0.mk (Kd.C_below hm5.1 HB.out)
 clear hm1 hm2 hm3 hm4 hm5
 have hb0 := (blk_cell HBK.out 0).trans rfl
 have hb1 := (blk_cell HBK.out 1).trans rfl
 have he0 := (blk_cell HCK.out 0).trans rfl
 have he1 := (blk_cell HCK.out 1).trans rfl
 obtain ⟨f0, HF0⟩ : ∃ x, Aside0 ((rd_T58 S.edges (e : Int)).f0 = x) := ⟨_, ⟨rfl⟩⟩
 obtain ⟨f1, HF1⟩ : ∃ x, Aside0 ((rd_T58 S.edges (e : Int)).f1 = x) := ⟨_, ⟨rfl⟩⟩
 rw [HF0.out] at he0
 rw [HF1.out] at he1
 have her : e < ar.length := by have h1 := HN.out.har; have h2 := HN.out.he; omega
 obtain ⟨ad, cs, hA, _, ⟨Ai, xc, hcs, hci, hri⟩, hcell⟩ := Kd.C_get HCR.out [] (e : Int) (by omega) (by omega)
 have hcr := hcell 0 _ (by rw [hcs]; rfl)
 have hz : (Kd.slice 3 (Kd.int .i64)).sz = 1 := rfl
 rw [hz, Nat.mul_one, Nat.add_zero] at hcr
 simp only [Int.toNat_natCast] at hcr hri hci
 subst hA
 obtain ⟨l, HL⟩ : ∃ x, Aside0 (ar.getD e [] = x) := ⟨_, ⟨rfl⟩⟩
 rw [HL.out] at hcr hri hci
 have HRI := Aside0.mk hri
 have hll := HN.out.hil
 rw [HL.out] at hll
 clear hcs hcell hz hri hci
 go_wp2_with (fail)
 go_loopw [4, 5, 38] (fun u d i wr => ∃ j : Nat, i = .int .i64 (j : Int) ∧ j ≤ l.length ∧ u = .int .i64 (arcsS arcs ws f0 (l.take j)).1 ∧ d = .int .i64 (arcsS arcs ws f0 (l.take j)).2 ∧ Aside0 (Below w1.heap.size w1 wr)) (fun _ _ i _ => l.length - (intOf i).toNat)
 case atStart => exact ⟨0, rfl, Nat.zero_le _, rfl, rfl, ⟨Below.refl _ _⟩⟩
 case round =>
  obtain ⟨j, rfl, hj, hu, hd, HBR⟩ := hrel
  obtain ⟨sp, HSP⟩ : ∃ x, Aside0 (arcsS arcs ws f0 (l.take j) = x) := ⟨_, ⟨rfl⟩⟩
  obtain ⟨su, sd⟩ := sp
  rw [HSP.out] at hu hd
  subst hu hd
  replace hcm0 := pw_cell_below HBR.out hcm0
  replace hcm1 := pw_cell_below HBR.out hcm1
  replace hb0 := pw_cell_below HBR.out hb0
  replace hb1 := pw_cell_below HBR.out hb1
  replace he0 := pw_cell_below HBR.out he0
  replace he1 := pw_cell_below HBR.out he1
  replace hcr := pw_cell_below HBR.out hcr
  by_cases hjl : j < l.length
  ·have HIN := Aside0.mk (HN.out.hin (l.getD j 0) (by
    rw [HL.out, List.getD_eq_getElem?_getD, List.getElem?_eq_getElem hjl]
    exact List.getElem_mem hjl))
   rcases cells_of_C (Kd.C_below HRI.out HBR.out) with ⟨h0, _⟩ | ⟨_, lb, lo, hA1, hce⟩
   ·omega
   subst hA1
   have hcx := hce j hjl
   obtain ⟨x, HX⟩ : ∃ x, Aside0 (l.getD j 0 = x) := ⟨_, ⟨rfl⟩⟩
   rw [HX.out] at hcx HIN
   clear hce
   obtain ⟨m, rfl⟩ := Int.eq_ofNat_of_zero_le HIN.out.1
   have hma : m < arcs.length := by have := HIN.out.2; omega
   have hmw : m < ws.length := by have := HN.out.hwl; omega
   rcases cells_of_C (Kd.C_below HCW.out HBR.out) with ⟨h0, _⟩ | ⟨_, wb, wo, hA1, hce⟩
   ·omega
   subst hA1
   have hcw := hce m hmw
   obtain ⟨y, HY⟩ : ∃ x, Aside0 (ws.getD m 0 = x) := ⟨_, ⟨rfl⟩⟩
   rw [HY.out] at hcw
   clear hce
   have HST : Aside0 (arcsS arcs ws f0 (l.take (j + 1)) = arcStep arcs ws f0 (su, sd) (m : Int)) := by
    refine ⟨?_⟩
    rw [take_getD_succ hjl, HX.out]
    show List.foldl _ _ _ = _
    rw [List.foldl_append]
    show arcStep arcs ws f0 (arcsS arcs ws f0 (l.take j)) (m : Int) = _
    rw [HSP.out]
   by_cases hy : y < 0
   ·have HR : Aside0 (arcsS arcs ws f0 (l.take (j + 1)) = (su, sd)) := ⟨by rw [HST.out]; unfold arcStep; rw [Int.toNat_natCast, HY.out, if_pos hy]⟩
    go_wp2_with (fail)
    go_roundw
    case rel => exact ⟨j + 1, by go_num, by omega, by rw [HR.out], by rw [HR.out], HBR⟩
    case measure => simp [intOf]; omega
   ·obtain ⟨ae, hA2, hx0, _⟩ := at_T58 (Kd.C_below HCA.out HBR.out) (m : Int) (by omega) (by omega)
    obtain ⟨ae2, hA3, hz0, _⟩ := at_T58 (Kd.C_below HCA.out HBR.out) 0 (by omega) (by omega)
    obtain rfl : ae2 = ae := Option.some.inj (hA3.symm.trans hA2)
    have hsp := spot_of_cell (ad := ae2) (by exact hz0)
    obtain ⟨ab, ao, asb⟩ := ae2
    injection hsp with hz1 hz2 hes
    clear hz1 hz2 hz0 hA3
    subst hes
    simp only [Addr.add_lit, Int.toNat_natCast] at hx0
    subst hA2
    obtain ⟨fx, HFX⟩ : ∃ x, Aside0 ((rd_T58 arcs (m : Int)).f0 = x) := ⟨_, ⟨rfl⟩⟩
    rw [HFX.out] at hx0
    have hmi : (m : Int) < (arcs.length : Int) := by omega
    go_wp2_with (fail)
    refine s_ (fun w' => w'.cell? ⟨B, 1, none⟩ = some (.slice (some ⟨ab, ao, none⟩) arcs.length c) ∧ w'.cell? ⟨ab, ao + m * 2, none⟩ = some (.int .i64 fx) ∧ w'.cell? ⟨C, 0, none⟩ = some (.int .i64 f0)) [] ⟨hb1, hx0, he0⟩ (fun hHeld => ?_)
    refine p_ 0 61 ?_
    refine t3_ 1 62 hHeld ?_
    refine p_ 2 63 ?_
    refine p_ 3 64 ?_
    refine p_ 4 65 ?_
    refine t3_ 5 66 hHeld ?_
    refine p_ 6 67 ?_
    refine t3_ 7 68 hHeld ?_
    refine p_ 8 69 ?_
    refine p_ 9 60 ?_
    refine d_ ?_
    have hdr : Below wr.heap.size wr wr.drew := below_drew (Below.refl _ _)
    replace hcm1 := pw_cell_below hdr hcm1
    replace hcw := pw_cell_below hdr hcw
    replace HBR := Aside0.mk (below_then HBR.out HBR.out.size hdr)
    clear hcm0 hb0 hb1 he0 he1 hcr hHeld hx0 hdr
    by_cases hfx : fx = f0
    ·by_cases hys : y < su
     ·have HR : Aside0 (arcsS arcs ws f0 (l.take (j + 1)) = (y, sd)) := ⟨by rw [HST.out]; unfold arcStep; rw [Int.toNat_natCast, HY.out, HFX.out, if_neg (show ¬ y < 0 by omega), if_pos hfx]; rw [show min su y = y by omega]⟩
      go_wp2_with (fail)
      go_roundw
      case rel => exact ⟨j + 1, by go_num, by omega, by rw [HR.out], by rw [HR.out], HBR⟩
      case measure => simp [intOf]; omega
     ·have HR : Aside0 (arcsS arcs ws f0 (l.take (j + 1)) = (su, sd)) := ⟨by rw [HST.out]; unfold arcStep; rw [Int.toNat_natCast, HY.out, HFX.out, if_neg (show ¬ y < 0 by omega), if_pos hfx]; rw [show min su y = su by omega]⟩
      go_wp2_with (fail)
      go_roundw
      case rel => exact ⟨j + 1, by go_num, by omega, by rw [HR.out], by rw [HR.out], HBR⟩
      case measure => simp [intOf]; omega
    ·by_cases hys : y < sd
     ·have HR : Aside0 (arcsS arcs ws f0 (l.take (j + 1)) = (su, y)) := ⟨by rw [HST.out]; unfold arcStep; rw [Int.toNat_natCast, HY.out, HFX.out, if_neg (show ¬ y < 0 by omega), if_neg hfx]; rw [show min sd y = y by omega]⟩
      go_wp2_with (fail)
      go_roundw
      case rel => exact ⟨j + 1, by go_num, by omega, by rw [HR.out], by rw [HR.out], HBR⟩
      case measure => simp [intOf]; omega
     ·have HR : Aside0 (arcsS arcs ws f0 (l.take (j + 1)) = (su, sd)) := ⟨by rw [HST.out]; unfold arcStep; rw [Int.toNat_natCast, HY.out, HFX.out, if_neg (show ¬ y < 0 by omega), if_neg hfx]; rw [show min sd y = sd by omega]⟩
      go_wp2_with (fail)
      go_roundw
      case rel => exact ⟨j + 1, by go_num, by omega, by rw [HR.out], by rw [HR.out], HBR⟩
      case measure => simp [intOf]; omega
  ·obtain rfl : j = l.length := by omega
   rw [List.take_length] at HSP
   have HBW := Aside0.mk (below_then HB.out HB.out.size HBR.out)
   clear hb0 hb1 hcr
   go_wp2_with (fail)
   refine (Hier_Lower.calls (HH.out.below HBW.out) HOK.out HEND.out HS.out (e : Int)).mono ?_
   rintro ev w3 ⟨v, rfl, hr3, hb3⟩
   have HR3 := Aside0.mk hr3
   replace HBR := Aside0.mk (below_then HBR.out HBR.out.size hb3)
   replace HBW := Aside0.mk (below_then HBW.out HBW.out.size hb3)
   replace hcm0 := pw_cell_below hb3 hcm0
   replace hcm1 := pw_cell_below hb3 hcm1
   replace he0 := pw_cell_below hb3 he0
   replace he1 := pw_cell_below hb3 he1
   clear hr3 hb3
   obtain ⟨A3, c3, rfl⟩ := Kd.R_slice HR3.out
   have HB3 := HBR
   go_wp2_with (fail)
   obtain ⟨ll, HLL⟩ : ∃ x, Aside0 (lowerS S (e : Int) = x) := ⟨_, ⟨rfl⟩⟩
   rw [HLL.out] at HR3 ⊢
   obtain ⟨A4, c4, hv4, hc4, hC4⟩ := Kd.R_reads HR3.out
   injection hv4 with hv1 hv2 hv3
   subst hv1 hv3
   have HC4 := Aside0.mk hC4
   clear hv2 hc4 hC4
   obtain ⟨g, HG2⟩ : ∃ g, Aside0 (g = lowStep (fun u v => (findS n R S u v).1) up dn f0 f1) := ⟨_, ⟨rfl⟩⟩
   go_loopw [4, 5, 87] (fun u d i wr => ∃ j : Nat, i = .int .i64 (j : Int) ∧ j ≤ ll.length ∧ u = .int .i64 ((ll.take j).foldl g (su, sd)).1 ∧ d = .int .i64 ((ll.take j).foldl g (su, sd)).2 ∧ Aside0 (Below w3.heap.size w3 wr)) (fun _ _ i _ => ll.length - (intOf i).toNat)
   case atStart => exact ⟨0, rfl, Nat.zero_le _, rfl, rfl, ⟨Below.refl _ _⟩⟩
   case round =>
    obtain ⟨j, rfl, hj, hu, hd, HB4⟩ := hrel
    obtain ⟨sp, HSQ⟩ : ∃ x, Aside0 ((ll.take j).foldl g (su, sd) = x) := ⟨_, ⟨rfl⟩⟩
    obtain ⟨tu, td⟩ := sp
    rw [HSQ.out] at hu hd
    subst hu hd
    have hllb : ll.length ≤ 1000000 := by rw [← HLL.out]; exact HN.out.hlb
    replace hcm0 := pw_cell_below HB4.out hcm0
    replace he0 := pw_cell_below HB4.out he0
    replace he1 := pw_cell_below HB4.out he1
    have HBW4 := Aside0.mk (below_then HBW.out HBW.out.size HB4.out)
    by_cases hjl : j < ll.length
    ·have HLO := Aside0.mk (HN.out.hlo (ll.getD j 0) (by
      rw [HLL.out, List.getD_eq_getElem?_getD, List.getElem?_eq_getElem hjl]
      exact List.getElem_mem hjl))
     rw [HF0.out, HF1.out] at HLO
     rcases cells_of_C (Kd.C_below HC4.out HB4.out) with ⟨h0, _⟩ | ⟨_, lb, lo, hA1, hce⟩
     ·omega
     subst hA1
     have hcx := hce j hjl
     obtain ⟨x, HX⟩ : ∃ x, Aside0 (ll.getD j 0 = x) := ⟨_, ⟨rfl⟩⟩
     rw [HX.out] at hcx HLO
     clear hce
     go_wp2_with (fail)
     refine s_ (fun w' => w'.cell? ⟨q, 0, none⟩ = some (.pointer (some ⟨p, 0, none⟩)) ∧ w'.cell? ⟨C, 0, none⟩ = some (.int .i64 f0)) [] ⟨hcm0, he0⟩ (fun hHeld => ?_)
     refine p_ 0 92 ?_
     refine p_ 1 93 ?_
     refine p_ 2 94 ?_
     refine t2_ 3 95 hHeld ?_
     refine p_ 4 96 ?_
     refine p_ 5 97 ?_
     refine t2_ 6 98 hHeld ?_
     refine o_ 7 99 (fun K hK => ?_)
     refine goes_ Try.func68 (by kernel_rfl) rfl #[.pointer (some ⟨p, 0, none⟩), .int .i64 x, .int .i64 f0] (by rfl) rfl rfl byL ?_
     refine (Hier_Find.calls (HH.out.below (below_then HBW4.out HBW4.out.size (below_drew (Below.refl _ _)))) hR x f0).mono ?_
     rintro ev w5 ⟨rfl, hb5⟩
     refine ⟨_, rfl, ?_⟩
     refine hK.out _ _ ⟨pw_cell_below hb5 hHeld.1, pw_cell_below hb5 hHeld.2⟩ (fun hHeld => ?_)
     clear hK K
     refine n_ 99 ?_
     refine p_ 8 91 ?_
     refine p_ 9 100 ?_
     refine p_ 10 101 ?_
     refine p_ 11 13 ?_
     refine p_ 12 14 ?_
     refine d_ ?_
     have hdr : Below wr.heap.size wr w5 := below_then (below_drew (Below.refl _ _)) (by exact Nat.le_refl _) hb5
     replace hcm0 := pw_cell_below hdr hcm0
     replace he0 := pw_cell_below hdr he0
     replace he1 := pw_cell_below hdr he1
     replace HB4 := Aside0.mk (below_then HB4.out HB4.out.size hdr)
     have HBW5 := Aside0.mk (below_then HBW4.out HBW4.out.size hdr)
     clear hb5 hdr hHeld hcx
     go_wp2_with (fail)
     refine s_ (fun w' => w'.cell? ⟨q, 0, none⟩ = some (.pointer (some ⟨p, 0, none⟩)) ∧ w'.cell? ⟨C, 1, none⟩ = some (.int .i64 f1)) [] ⟨hcm0, he1⟩ (fun hHeld => ?_)
     refine p_ 0 103 ?_
     refine p_ 1 104 ?_
     refine p_ 2 105 ?_
     refine t2_ 3 106 hHeld ?_
     refine p_ 4 107 ?_
     refine p_ 5 108 ?_
     refine t2_ 6 109 hHeld ?_
     refine o_ 7 110 (fun K hK => ?_)
     refine goes_ Try.func68 (by kernel_rfl) rfl #[.pointer (some ⟨p, 0, none⟩), .int .i64 x, .int .i64 f1] (by rfl) rfl rfl byL ?_
     refine (Hier_Find.calls (HH.out.below (below_then HBW5.out HBW5.out.size (below_drew (Below.refl _ _)))) hR x f1).mono ?_
     rintro ev w6 ⟨rfl, hb6⟩
     refine ⟨_, rfl, ?_⟩
     refine hK.out _ _ ⟨pw_cell_below hb6 hHeld.1, pw_cell_below hb6 hHeld.2⟩ (fun hHeld => ?_)
     clear hK K
     refine n_ 110 ?_
     refine p_ 8 102 ?_
     refine p_ 9 111 ?_
     refine p_ 10 112 ?_
     refine p_ 11 15 ?_
     refine p_ 12 16 ?_
     refine d_ ?_
     have hdr2 : Below w5.heap.size w5 w6 := below_then (below_drew (Below.refl _ _)) (by exact Nat.le_refl _) hb6
     replace HB4 := Aside0.mk (below_then HB4.out HB4.out.size hdr2)
     obtain ⟨a, ha⟩ := Int.eq_ofNat_of_zero_le (HLO.out f0 (.inl rfl)).1
     obtain ⟨b, hb⟩ := Int.eq_ofNat_of_zero_le (HLO.out f1 (.inr rfl)).1
     have hal2 := (HLO.out f0 (.inl rfl)).2
     have hbl2 := (HLO.out f1 (.inr rfl)).2
     rw [ha] at hal2
     rw [hb] at hbl2
     have hue := HN.out.hup
     have hde := HN.out.hdn
     have HDB : Aside0 (∀ i : Nat, 0 ≤ dn.getD i 0 ∧ dn.getD i 0 ≤ mInf) := ⟨getD_bound HN.out.hdb⟩
     have HUB : Aside0 (∀ i : Nat, 0 ≤ up.getD i 0 ∧ up.getD i 0 ≤ mInf) := ⟨getD_bound HN.out.hub⟩
     replace hcm3 := pw_cell_below HB4.out (pw_cell_below HB3.out hcm3)
     replace hcm4 := pw_cell_below HB4.out (pw_cell_below HB3.out hcm4)
     rcases cells_of_C (Kd.C_below HCU.out (below_then HB3.out HB3.out.size HB4.out)) with ⟨h0, _⟩ | ⟨_, ub, uo, hA1, hcu⟩
     ·omega
     subst hA1
     rcases cells_of_C (Kd.C_below HCD.out (below_then HB3.out HB3.out.size HB4.out)) with ⟨h0, _⟩ | ⟨_, db, dof, hA1, hcd⟩
     ·omega
     subst hA1
     have ha3 : a < dn.length := by omega
     have hb3 : b < up.length := by omega
     have ha4 : a < up.length := by omega
     have hb4 : b < dn.length := by omega
     have hua := hcu a (by omega)
     have hub := hcu b (by omega)
     have hda := hcd a (by omega)
     have hdb := hcd b (by omega)
     clear hcu hcd hb6 hdr2 hHeld hue hde
     have HST : Aside0 ((ll.take (j + 1)).foldl g (su, sd) = (min tu (over (dn.getD a 0) (up.getD b 0)), min td (over (dn.getD b 0) (up.getD a 0)))) := ⟨by
      rw [take_getD_succ hjl, HX.out, List.foldl_append]
      show g ((ll.take j).foldl g (su, sd)) x = _
      rw [HSQ.out, HG2.out]
      show (min tu (over (dn.getD (findS n R S x f0).1.toNat 0) (up.getD (findS n R S x f1).1.toNat 0)), min td (over (dn.getD (findS n R S x f1).1.toNat 0) (up.getD (findS n R S x f0).1.toNat 0))) = _
      rw [ha, hb]
      simp only [Int.toNat_natCast]⟩
     have HB_da := Aside0.mk (HDB.out a)
     have HB_db := Aside0.mk (HDB.out b)
     have HB_ua := Aside0.mk (HUB.out a)
     have HB_ub := Aside0.mk (HUB.out b)
     generalize dn.getD a 0 = da at hda HST HB_da
     generalize dn.getD b 0 = db_ at hdb HST HB_db
     generalize up.getD a 0 = ua at hua HST HB_ua
     generalize up.getD b 0 = ub_ at hub HST HB_ub
     rw [ha, hb]
     go_wp2_with (fail)
     refine s_ (fun w' => w'.cell? ⟨q, 4, none⟩ = some (.slice (some ⟨db, dof, none⟩) dn.length dc) ∧ w'.cell? ⟨q, 3, none⟩ = some (.slice (some ⟨ub, uo, none⟩) up.length uc) ∧ w'.cell? ⟨db, dof + a, none⟩ = some (.int .i64 da) ∧ w'.cell? ⟨ub, uo + b, none⟩ = some (.int .i64 ub_)) [] ⟨hcm4, hcm3, hda, hub⟩ (fun hHeld => ?_)
     refine p_ 0 113 ?_
     refine p_ 1 114 ?_
     refine p_ 2 115 ?_
     refine p_ 3 116 ?_
     refine p_ 4 117 ?_
     refine t4_ 5 118 hHeld ?_
     refine p_ 6 119 ?_
     refine p_ 7 120 ?_
     refine t4_ 8 121 hHeld ?_
     refine p_ 9 122 ?_
     refine p_ 10 123 ?_
     refine p_ 11 124 ?_
     refine t4_ 12 125 hHeld ?_
     refine p_ 13 126 ?_
     refine p_ 14 127 ?_
     refine t4_ 15 128 hHeld ?_
     refine o_ 16 129 (fun K hK => ?_)
     refine goesV_ Try.func88 (by kernel_rfl) rfl #[.int .i64 da, .int .i64 ub_] (by rfl) rfl rfl rfl byL ?_
     refine (weights_over.calls _ _ HB_da.out HB_ub.out _).mono ?_
     rintro ev wz ⟨rfl, rfl⟩
     refine ⟨_, rfl, ?_⟩
     refine hK.out _ _ hHeld (fun hHeld => ?_)
     clear hK K
     refine n_ 129 ?_
     refine p_ 17 130 ?_
     refine p_ 18 4 ?_
     refine d_ ?_
     obtain ⟨t1, HT1⟩ : ∃ t, Aside0 (min tu (over da ub_) = t) := ⟨_, ⟨rfl⟩⟩
     have ht1 : (if over da ub_ < tu then over da ub_ else tu) = t1 := by rw [← HT1.out]; split <;> omega
     rw [ht1]
     rw [HT1.out] at HST
     clear ht1
     have hdr3 : Below w6.heap.size w6 w6.drew := below_drew (Below.refl _ _)
     replace HB4 := Aside0.mk (below_then HB4.out HB4.out.size hdr3)
     replace hcm3 := pw_cell_below hdr3 hcm3
     replace hcm4 := pw_cell_below hdr3 hcm4
     replace hua := pw_cell_below hdr3 hua
     replace hdb := pw_cell_below hdr3 hdb
     clear hdr3 hHeld hda hub
     go_wp2_with (fail)
     refine s_ (fun w' => w'.cell? ⟨q, 4, none⟩ = some (.slice (some ⟨db, dof, none⟩) dn.length dc) ∧ w'.cell? ⟨q, 3, none⟩ = some (.slice (some ⟨ub, uo, none⟩) up.length uc) ∧ w'.cell? ⟨db, dof + b, none⟩ = some (.int .i64 db_) ∧ w'.cell? ⟨ub, uo + a, none⟩ = some (.int .i64 ua)) [] ⟨hcm4, hcm3, hdb, hua⟩ (fun hHeld => ?_)
     refine p_ 0 131 ?_
     refine p_ 1 132 ?_
     refine p_ 2 133 ?_
     refine p_ 3 134 ?_
     refine p_ 4 135 ?_
     refine t4_ 5 136 hHeld ?_
     refine p_ 6 137 ?_
     refine p_ 7 138 ?_
     refine t4_ 8 139 hHeld ?_
     refine p_ 9 140 ?_
     refine p_ 10 141 ?_
     refine p_ 11 142 ?_
     refine t4_ 12 143 hHeld ?_
     refine p_ 13 144 ?_
     refine p_ 14 145 ?_
     refine t4_ 15 146 hHeld ?_
     refine o_ 16 147 (fun K hK => ?_)
     refine goesV_ Try.func88 (by kernel_rfl) rfl #[.int .i64 db_, .int .i64 ua] (by rfl) rfl rfl rfl byL ?_
     refine (weights_over.calls _ _ HB_db.out HB_ua.out _).mono ?_
     rintro ev wz ⟨rfl, rfl⟩
     refine ⟨_, rfl, ?_⟩
     refine hK.out _ _ hHeld (fun hHeld => ?_)
     clear hK K
     refine n_ 147 ?_
     refine p_ 17 148 ?_
     refine p_ 18 5 ?_
     refine d_ ?_
     obtain ⟨t2, HT2⟩ : ∃ t, Aside0 (min td (over db_ ua) = t) := ⟨_, ⟨rfl⟩⟩
     have ht2 : (if over db_ ua < td then over db_ ua else td) = t2 := by rw [← HT2.out]; split <;> omega
     rw [ht2]
     rw [HT2.out] at HST
     have hdr4 : Below w6.drew.heap.size w6.drew w6.drew.drew := below_drew (Below.refl _ _)
     replace HB4 := Aside0.mk (below_then HB4.out HB4.out.size hdr4)
     clear hHeld hdr4 hcm3 hcm4 hua hdb ht2
     go_wp2_with (fail)
     go_roundw
     case rel => exact ⟨j + 1, by go_num, by omega, by rw [HST.out], by rw [HST.out], HB4⟩
     case measure => simp [intOf]; omega
    ·obtain rfl : j = ll.length := by omega
     rw [List.take_length] at HSQ
     have HFIN : Aside0 (weightsS n arcs R S ws ar up dn e = (tu, td)) := ⟨by unfold weightsS; rw [HLL.out, HF0.out, HF1.out, HL.out, HSP.out, ← HG2.out]; exact HSQ.out⟩
     clear hcm0 he0 he1
     go_wp2
     go_ret2
     exact ⟨by rw [HFIN.out]; rfl, HBW4.out⟩
end Go.Proofs.Ytfnophaiamkmpaa.Print
