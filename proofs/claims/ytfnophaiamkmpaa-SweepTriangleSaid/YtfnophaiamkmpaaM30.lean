/- Several texts of this claim in one: HSSt, HSwX. -/
import Derived.Test.YtfnophaiamkmpaaM29
namespace Go.Proofs.Ytfnophaiamkmpaa.Print
open Go.RowKit Go.Proofs.YtfnophaiamkmpaaW.PrintWords Go.Proofs.YtfnophaiamkmpaaW.PrintLast Go.Proofs.YtfnophaiamkmpaaW.PrintMore
set_option linter.unusedVariables false
set_option linter.unusedSimpArgs false
def incR : Go.Shelf.Ren := ⟨fun | 20 => 98 | n => n, fun | 24 => 50 | 22 => 43 | 3 => 3 | 25 => 127 | 4 => 4 | 0 => 0 | n => n, fun n => n⟩
theorem incL : SlLaysF0.n20 Try.prog incR := {
 mixed := by kernel_rfl
 f20 := ⟨"slices.insertionSortCmpFunc[mapmaker/api.Reached]", by decide, Try.func98.trans (congrArg some (by kernel_rfl))⟩
 t0 := Try.underlying0
 a0 := Try.isAgg0
 z0 := Try.sizeOf0
 v0 := Try.zeroValue0
 t3 := Try.underlying3
 a3 := Try.isAgg3
 z3 := Try.sizeOf3
 v3 := Try.zeroValue3
 t4 := Try.underlying4
 a4 := Try.isAgg4
 z4 := Try.sizeOf4
 v4 := Try.zeroValue4
 t22 := Try.underlying43
 a22 := Try.isAgg43
 z22 := Try.sizeOf43
 v22 := Try.zeroValue43
 t25 := Try.underlying127
 a25 := Try.isAgg127
 z25 := Try.sizeOf127
 v25 := Try.zeroValue127
 }
instance : Inhabited S50 := ⟨z50⟩
def encR (x : S50) : List Value := [.int .i64 x.f0, .int .i64 x.f1]
def cmpI (a b : Int) : Int := if a < b then -1 else if b < a then 1 else 0
def cmpC (x y : S50) : Int := cmpI x.f1 y.f1
theorem cmpC_lt : Go.Proofs.ltOf cmpC = Go.Proofs.ltOf (fun a b : S50 => a.f1 - b.f1) := by
 funext x y
 unfold Go.Proofs.ltOf cmpC cmpI
 split
 ·simp; omega
 ·split
  ·simp; omega
  ·simp; omega
set_option maxHeartbeats 1600000 in
set_option maxRecDepth 100000 in
theorem cmp_Compare.calls (a b : Int) (w : World) : Calls Try.prog 76 #[.int .i64 a, .int .i64 b] w fun e w' => e = .returned (.int .i64 (cmpI a b)) ∧ w' = w := by
 rcases Int.lt_trichotomy a b with h | h | h
 ·have e1 : cmpI a b = -1 := by unfold cmpI; rw [if_pos h]
  rw [e1]
  go_enter Try.func76, Try.ntmps76
  go_wp2
  go_ret
  exact ⟨rfl, rfl⟩
 ·subst h
  have e1 : cmpI a a = 0 := by unfold cmpI; rw [if_neg (by omega), if_neg (by omega)]
  rw [e1]
  go_enter Try.func76, Try.ntmps76
  go_wp2
  go_ret
  exact ⟨rfl, rfl⟩
 ·have e1 : cmpI a b = 1 := by unfold cmpI; rw [if_neg (by omega), if_pos h]
  have h2 : ¬ a < b := by omega
  rw [e1]
  go_enter Try.func76, Try.ntmps76
  go_wp2
  go_ret
  exact ⟨rfl, rfl⟩
set_option maxHeartbeats 1600000 in
set_option maxRecDepth 100000 in
theorem within_cmp.calls (x y : S50) (W : World) : Calls Try.prog 75 #[.agg #[.int .i64 x.f0, .int .i64 x.f1], .agg #[.int .i64 y.f0, .int .i64 y.f1]] W fun e w' => e = .returned (.int .i64 (cmpC x y)) ∧ ∃ q os', w' = Go.Sort.grow (W.drewN q) os' := by
 have hcon := cmp_Compare.calls x.f1 y.f1
 unfold cmpC
 generalize cmpI x.f1 y.f1 = r at hcon ⊢
 go_enter Try.func75, Try.ntmps75
 go_wp2_with (go_at_call 76; refine (hcon _).mono ?_; rintro e w' ⟨rfl, rfl⟩)
 go_ret
 exact ⟨rfl, 0, _, by rw [Go.Sort.alloc_eq_grow, Go.Sort.alloc_eq_grow, Go.Sort.grow_grow]; rfl⟩
theorem below_sort {base blk off m : Nat} {w : World} {dk : Array S50} {os : Array Obj} (hb : base ≤ blk) (hbs : base ≤ w.heap.size) : Below base w (sortWorldK encR 2 w blk off m dk os) := by
 have hs : w.heap.size ≤ (sortWorldK encR 2 w blk off m dk os).heap.size := size_sortWorldK_c encR 2 w blk off m dk os
 refine ⟨rfl, rfl, rfl, hs, fun k hk => ?_⟩
 show ((w.heap.modify blk _) ++ os)[k]? = _
 rw [Array.getElem?_append_left (by rw [Array.size_modify]; omega), Array.getElem?_modify, if_neg (by omega)]
theorem sort_holds {base blk off n cap : Nat} {w : World} {ok : Nat → Prop} {xs : List S50} (hr : Kd.R k50 50 w base ok (.slice (some ⟨blk, off, none⟩) n cap) xs) : base ≤ blk ∧ blk < w.heap.size ∧ Go.Sort.HoldsK encR 2 w blk off xs.toArray := by
 obtain ⟨inner, ho⟩ := Kd.R_own hr
 have hbk : (Value.slice (some ⟨blk, off, none⟩) n cap).ownBlock = some blk := rfl
 obtain ⟨cells, hc⟩ := own_typed ho blk hbk
 refine ⟨own_base ho blk hbk, own_lt ho blk hbk, ?_⟩
 obtain ⟨hn, _, hC⟩ := Kd.R_reads' hr
 intro j hj
 have hj' : j < xs.length * 2 := by simpa using hj
 have hi : j / 2 < xs.length := by omega
 obtain ⟨ab, ao, he, h0, h1⟩ := reach_cells hC hi
 injection he with he
 injection he with e1 e2
 subst e1
 subst e2
 refine ⟨?_, fz_of_blk hc⟩
 rw [Go.Sort.get_flatK encR 2 _ j (by simpa using hj')]
 have ex : xs.toArray[j / 2]! = xs.getD (j / 2) z50 := by
  simp [hi]
 rw [ex]
 rcases Nat.mod_two_eq_zero_or_one j with hm | hm
 ·rw [hm, show off + j = off + j / 2 * 2 from by omega]
  exact h0
 ·rw [hm, show off + j = off + j / 2 * 2 + 1 from by omega]
  exact h1
theorem sort_reads {blk off : Nat} {w : World} {xs : List S50} (hl : xs.length ≤ 9223372036854775807) (h : Go.Sort.HoldsK encR 2 w blk off xs.toArray) : Kd.C k50 w (some ⟨blk, off, none⟩) xs.length xs := by
 refine ⟨rfl, hl, fun _ => ⟨_, rfl, fun j p hj => ⟨encR p, rfl, k50.K_of_M (k50_mkM w 0 (fun _ => True) p), fun i u hu => ?_⟩⟩⟩
 have hjl : j < xs.length := by
  rcases Nat.lt_or_ge j xs.length with h | h
  ·exact h
  ·rw [List.getElem?_eq_none h] at hj; cases hj
 have hi : i < 2 := by
  rcases Nat.lt_or_ge i 2 with h | h
  ·exact h
  ·rw [List.getElem?_eq_none (by exact h)] at hu; cases hu
 have hc := (h.cell (i := j) (c := i) (by simpa using hjl) hi).1
 have ex : xs.toArray[j]! = p := by simp [hj]
 rw [ex] at hc
 have ex2 : (encR p)[i]! = u := by simp [hu]
 rw [ex2] at hc
 simp only [Addr.add_lit]
 rw [← Nat.add_assoc]
 exact hc
set_option maxHeartbeats 1600000 in
set_option maxRecDepth 100000 in
theorem stable_cmp.calls {w : World} {blk off cap : Nat} {xs : List S50} (hH : Go.Sort.HoldsK encR 2 w blk off xs.toArray) (hblk : blk < w.heap.size) (hl : xs.length ≤ 19) :
  Calls Try.prog 92 #[.slice (some ⟨blk, off, none⟩) xs.length cap, .int .i64 xs.length, .func (.func 75) #[] #[]] w fun e w' =>
   e = .returned (.tuple #[]) ∧ ∃ n os, w' = sortWorldK encR 2 w blk off n (stL (fun x => x.f1) xs).toArray os := by
 have hi := AnyQ.insertionSortCmpFunc incL 2 Try.isAgg50 Try.sizeOf50 encR (fun _ => rfl) (fun x v hv => by simp [encR] at hv; rcases hv with rfl | rfl <;> rfl) cmpC 75 #[] blk off cap 0 xs.length xs.toArray w (enters_of Try.func75 (by kernel_rfl) rfl) (fun _ _ _ _ x y => within_cmp.calls x y _) hH hblk (Nat.zero_le _) (by simp) (by simp; omega)
 rw [cmpC_lt, ins_sort] at hi
 change Calls Try.prog 98 _ _ _ at hi
 simp only [List.size_toArray] at hi
 generalize (stL (fun x : S50 => x.f1) xs).toArray = d at hi ⊢
 clear hH
 have hl2 : (xs.length : Int) ≤ 19 := by omega
 generalize xs.length = n at hi hl hl2 ⊢
 have HI := Aside0.mk hi
 clear hi
 go_enter Try.func92, Try.ntmps92
 have hg1 : ¬ (20 : Int) ≤ (n : Int) := by omega
 have hg2 : ¬ (20 : Int) < (n : Int) := by omega
 go_wp2_with (fail)
 refine wp_loop_rounds 1 ?_
 rw [rounds_succ]
 go_wp2_with (fail)
 refine HI.out.mono ?_
 rintro e w' ⟨rfl, m, os, rfl⟩
 go_wp2_with (fail)
 refine wp_loop_rounds 1 ?_
 rw [rounds_succ]
 go_wp2_with (fail)
 go_end0
 exact ⟨rfl, m, os, rfl⟩
set_option maxHeartbeats 1600000 in
set_option maxRecDepth 100000 in
theorem stable_nil.calls {w : World} (fv : Value) (c : Nat) :
  Calls Try.prog 74 #[.slice none 0 c, fv] w fun e w' => e = .returned (.tuple #[]) ∧ w' = w := by
 have h1 : Calls Try.prog 98 #[.slice none 0 c, .int .i64 0, .int .i64 0, fv] w fun e w' => e = .returned (.tuple #[]) ∧ w' = w := by
  go_enter Try.func98, Try.ntmps98
  go_wp2_with (fail)
  refine wp_loop_rounds 1 ?_
  rw [rounds_succ]
  go_wp2_with (fail)
  go_end0
  exact ⟨rfl, rfl⟩
 have h2 : Calls Try.prog 92 #[.slice none 0 c, .int .i64 0, fv] w fun e w' => e = .returned (.tuple #[]) ∧ w' = w := by
  go_enter Try.func92, Try.ntmps92
  go_wp2_with (fail)
  refine wp_loop_rounds 1 ?_
  rw [rounds_succ]
  go_wp2_with (fail)
  refine h1.mono ?_
  rintro e w' ⟨rfl, rfl⟩
  go_wp2_with (fail)
  refine wp_loop_rounds 1 ?_
  rw [rounds_succ]
  go_wp2_with (fail)
  go_end0
  exact ⟨rfl, rfl⟩
 go_enter Try.func74, Try.ntmps74
 go_wp2_with (fail)
 refine h2.mono ?_
 rintro e w' ⟨rfl, rfl⟩
 go_wp2_with (fail)
 go_end0
 exact ⟨rfl, rfl⟩
set_option maxHeartbeats 1600000 in
set_option maxRecDepth 100000 in
theorem sort_stable.calls {w : World} {base : Nat} {ok : Nat → Prop} {A : Option Addr} {n cap : Nat} {xs : List S50} (hr : Kd.R k50 50 w base ok (.slice A n cap) xs) (hbs : base ≤ w.heap.size) (hl : xs.length ≤ 19) :
  Calls Try.prog 74 #[.slice A n cap, .func (.func 75) #[] #[]] w fun e w' =>
   e = .returned (.tuple #[]) ∧ Below base w w' ∧ Kd.C k50 w' A n (stL (fun x => x.f1) xs) := by
 obtain ⟨hn, hcap, hC⟩ := Kd.R_reads' hr
 obtain ⟨inner, ho⟩ := Kd.R_own hr
 rcases ho.2 with ⟨hv, _⟩ | ⟨g, cap', cur, hv, _, _, _⟩
 ·injection hv with e1 e2 e3
  subst e1
  obtain rfl : xs = [] := List.eq_nil_of_length_eq_zero (by omega)
  subst e2
  refine (stable_nil.calls _ _).mono ?_
  rintro e w' ⟨rfl, rfl⟩
  exact ⟨rfl, Below.refl _ _, hC⟩
 ·injection hv with e1 e2 e3
  subst e1
  clear hcap hC ho
  subst hn
  rename_i r1 r2 r3
  clear r2 r3
  obtain ⟨h1, h2, h3⟩ := sort_holds hr
  clear hr
  have HC := Aside0.mk (stable_cmp.calls (cap := cap) h3 h2 hl)
  have HP := Aside0.mk (fun (m : Nat) (os : Array Obj) => And.intro (below_sort (off := 0) (m := m) (dk := (stL (fun x => x.f1) xs).toArray) (os := os) h1 hbs) (sort_reads (w := sortWorldK encR 2 w g 0 m (stL (fun x => x.f1) xs).toArray os) (by rw [stL_len]; omega) (holdsK_sortWorldK_c encR 2 w g 0 xs.toArray _ m os h3 h2 (by simp [stL_len]))))
  clear h3 e2 e3
  go_enter Try.func74, Try.ntmps74
  go_wp2_with (fail)
  refine HC.out.mono ?_
  rintro e w' ⟨rfl, m, os, rfl⟩
  have HQ := Aside0.mk (HP.out m os)
  rw [stL_len] at HQ
  generalize sortWorldK encR 2 w g 0 m (stL (fun x : S50 => x.f1) xs).toArray os = w5 at HQ ⊢
  go_wp2_with (fail)
  go_end0
  exact ⟨rfl, HQ.out.1, HQ.out.2⟩
attribute [local go_sem] max2_int min2_int max_two min_two
theorem goesM_ {P : Program} {ops : Array Oper} {Q : Exit → Act → World → Prop} {oi : Oper} {N : Option Tmp} {a : Act} {w : World} {K : Act → World → Prop} {f : FuncId} {fn : Func} {o : Operand} {x : Value} {os : Array Operand} {ts : Array TypeId} (hf : P.funcs[f]? = some fn) (hname : (fn.name == "runtime.NumGoroutine") = false) (hb : fn.body.isSome = true) (args : Array Value)
  (hw : Region.wanted oi (yielded ops a.tmps) = true) (hN : oi.dst = N) (hop : oi.op = .call { callee := .value o, args := os, argTypes := ts }) (hv : a.eval o = .func (.func f) #[x] #[]) (hargs : #[x] ++ os.map a.eval = args)
  (h : Calls P f args w fun e w' => ∃ v, e = .returned v ∧ K (a.put N v) w') : if Region.wanted oi (yielded ops a.tmps) = true then Oper.wp P oi a w K Q else K (a.put N undef) w := by
 subst hargs
 refine call_ f _ hw hN ?_ h
 have he := enters_ hf hname hb (#[x] ++ os.map a.eval) w
 unfold execOp
 simp only [hop]
 simp [resolve, Deferred.ofValue, invoke, hv, he]
def wFn (b : Bool) (q : Nat) : Value := .func (.func (if b = true then 60 else 61)) #[.pointer (some ⟨q, 0, none⟩)] #[]
structure SwX (w : World) (q p n : Nat) (arcs : List S58) (L ws : List Int) (b : Bool) (b15 b11 b16 cb : Nat) (eA : Option Addr) (ec : Nat) (C : Nat → Int) : Prop where
 met : MetH w q p n arcs L ws
 k15 : w.cell? ⟨b15, 0, none⟩ = some (wFn b q)
 k11 : w.cell? ⟨b11, 0, none⟩ = some (.slice (some ⟨cb, 0, none⟩) n n)
 k16 : w.cell? ⟨b16, 0, none⟩ = some (.slice eA (eL n arcs L) ec)
 ed : Kd.C k58 w eA (eL n arcs L) (hierS n arcs L).edges
 col : w.heap[cb]? = some (.cells (colC n C) 3 (0, 0))
 rng : ∀ a, a < n → 0 ≤ C a ∧ C a ≤ mInf
set_option maxHeartbeats 3200000 in
set_option maxRecDepth 100000 in
theorem sweep_relaxF.calls {w : World} {q p n : Nat} {arcs : List S58} {L ws : List Int} {b15 b11 b16 cb : Nat} {eA : Option Addr} {ec : Nat} {C : Nat → Int} (hk : Hk n arcs L) (hn : n ≤ 20) (hX : SwX w q p n arcs L ws false b15 b11 b16 cb eA ec C) {v i : Nat} (hv : v < n) (hi : i < eL n arcs L) :
  Calls Try.prog 90 #[.int .i64 (v : Int), .int .i64 (i : Int), .pointer (some ⟨b15, 0, none⟩), .pointer (some ⟨b11, 0, none⟩), .pointer (some ⟨b16, 0, none⟩)] w fun e w' => e = .returned (.tuple #[]) ∧ w'.heap[cb]? = some (.cells (colC n (swE (swT n arcs L) (swW n arcs L ws true) v C (i : Int))) 3 (0, 0)) ∧ Bel (fun k => k = cb) w w' := by
 obtain ⟨p0, y, hpy, hy, e0, e1, _⟩ := hk.edge_rk hi
 obtain ⟨ht, hte⟩ := hk.vtx_lt hy
 rw [hte] at e1
 have HK := Aside0.mk hk
 have HX := Aside0.mk hX
 have hE := hX.ed
 obtain ⟨eb, eo, rfl, ex0, y3⟩ := edge_cells (show Kd.C k58 w eA (hierS n arcs L).edges.length (hierS n arcs L).edges from hE) (i := i) hi
 rw [show ((hierS n arcs L).edges.getD i z58).f1 = _ from e1] at y3
 have HTT : Aside0 (swT n arcs L (i : Int) = vtx L y) := ⟨by unfold swT; rw [Int.toNat_natCast, e1, Int.toNat_natCast]⟩
 have HWW : Aside0 (swW n arcs L ws true (i : Int) = wtS n arcs L ws true i) := ⟨by unfold swW; rw [Int.toNat_natCast]⟩
 generalize vtx L y = t at ht y3 HTT
 have hwb := wtS_bound (n := n) (arcs := arcs) (L := L) (ws := ws) (b := true) i
 have hcb := hX.rng t ht
 have hvb := hX.rng v hv
 have y0 : w.cell? ⟨b15, 0, none⟩ = some (.func (.func 61) #[.pointer (some ⟨q, 0, none⟩)] #[]) := hX.k15
 have y1 := hX.k11
 have y2 := hX.k16
 have y4 := (blk_cell hX.col t).trans (colC_get ht)
 have HSE : Aside0 (swE (swT n arcs L) (swW n arcs L ws true) v C (i : Int) = if wtS n arcs L ws true i < mInf ∧ C t < mInf then fset C v (min (C v) (C t + wtS n arcs L ws true i)) else C) := ⟨by unfold swE; rw [HTT.out, HWW.out]⟩
 have hHC : Aside0 (∀ W : World, W.heap[cb]? = some (.cells (colC n C) 3 (0, 0)) → W.cell? ⟨cb, v, none⟩ = some (.int .i64 (C v))) := ⟨fun W h => (blk_cell h v).trans (colC_get hv)⟩
 obtain ⟨wt, HWE⟩ : ∃ wt, Aside0 (wtS n arcs L ws true i = wt) := ⟨_, ⟨rfl⟩⟩
 rw [HWE.out] at HSE hwb
 generalize hct : C t = ct at y4 HSE hcb
 generalize hcv : C v = cv at hHC HSE hvb
 obtain ⟨m, HME⟩ : ∃ m, Aside0 (eL n arcs L = m) := ⟨_, ⟨rfl⟩⟩
 rw [HME.out] at y2
 have him : i < m := by have := HME.out; omega
 clear hk hX hE e0 e1 hte ex0 hpy hct hcv
 unfold mInf at hwb hcb hvb
 go_enter Try.func90, Try.ntmps90
 go_upto_region 0 with (fail)
 refine s_ (fun w' => w'.cell? ⟨b15, 0, none⟩ = some (.func (.func 61) #[.pointer (some ⟨q, 0, none⟩)] #[]) ∧ w'.cell? ⟨b11, 0, none⟩ = some (.slice (some ⟨cb, 0, none⟩) n n) ∧ w'.cell? ⟨b16, 0, none⟩ = some (.slice (some ⟨eb, eo, none⟩) m ec) ∧ w'.cell? ⟨eb, eo + i * 2 + 1, none⟩ = some (.int .i64 (t : Int)) ∧ w'.cell? ⟨cb, t, none⟩ = some (.int .i64 ct)) [] ⟨y0, y1, y2, y3, y4⟩ (fun hHeld => ?_)
 have HC := Aside0.mk (show w.drew.heap[cb]? = some (.cells (colC n C) 3 (0, 0)) from HX.out.col)
 have HMd := Aside0.mk (HX.out.met.below (below_drew (Below.refl _ _)))
 have HBd : Aside0 (Bel (fun k => k = cb) w w.drew) := ⟨(Bel.refl _ _).below (below_drew (Below.refl _ _))⟩
 have HDN : Aside0 (Calls Try.prog 61 #[.pointer (some ⟨q, 0, none⟩), .int .i64 (i : Int)] w.drew fun x w' => x = .returned (.int .i64 wt) ∧ w' = w.drew) := ⟨by
  have h1 := Metric_Down.calls (HMd.out.reads HK.out (by omega)) (i : Int)
  rw [sideS_in (l := (sdS n arcs L ws).2) (j := i) (by rw [(sdS_len n arcs L ws).2]; exact hi)] at h1
  rw [← HWE.out]
  exact h1⟩
 clear y0 y1 y2 y3 y4
 generalize w.drew = wd at HC HMd HBd HDN hHeld ⊢
 refine t5_ 0 9 hHeld ?_
 refine p_ 1 10 ?_
 refine t5_ 3 12 hHeld ?_
 refine t5_ 4 13 hHeld ?_
 refine p_ 5 14 ?_
 refine p_ 6 15 ?_
 refine p_ 7 16 ?_
 refine t5_ 8 17 hHeld ?_
 refine p_ 9 18 ?_
 refine t5_ 10 19 hHeld ?_
 refine o_ 2 11 (fun K hK => ?_)
 refine goesM_ Try.func61 (by kernel_rfl) rfl #[.pointer (some ⟨q, 0, none⟩), .int .i64 (i : Int)] (by rfl) rfl rfl rfl byL ?_
 refine (HDN.out).mono ?_
 rintro e wN ⟨rfl, rfl⟩
 refine ⟨_, rfl, ?_⟩
 refine hK.out _ _ ⟨hHeld.1, hHeld.2.1, hHeld.2.2.1, hHeld.2.2.2.1, hHeld.2.2.2.2⟩ (fun hHeld => ?_)
 clear hK K
 refine n_ 11 ?_
 clear HDN
 refine p_ 11 7 ?_
 refine p_ 12 8 ?_
 refine d_ ?_
 by_cases h1 : wt < 1152921504606846976
 ·by_cases h2 : ct < 1152921504606846976
  ·by_cases h3 : ct + wt < cv
   ·have HE : Aside0 (swE (swT n arcs L) (swW n arcs L ws true) v C (i : Int) = fset C v (ct + wt)) := ⟨by rw [HSE.out, if_pos ⟨h1, h2⟩]; congr 1; omega⟩
    have hwr : IntKind.i64.wrap (ct + wt) = ct + wt := by rw [i64_w]; unfold wrap64; omega
    have y1 := hHeld.2.1
    have y5 := hHC.out wN HC.out
    clear hHeld
    go_upto_region 2 with (fail)
    refine s_ (fun w' => w'.cell? ⟨b11, 0, none⟩ = some (.slice (some ⟨cb, 0, none⟩) n n) ∧ w'.cell? ⟨cb, v, none⟩ = some (.int .i64 cv)) [11] ⟨y1, y5⟩ (fun hHeld => ?_)
    have HC2 := Aside0.mk (show wN.drew.heap[cb]? = some (.cells (colC n C) 3 (0, 0)) from HC.out)
    have HBe := Aside0.mk (HBd.out.below (below_drew (Below.refl _ _)))
    clear y1 y5
    generalize wN.drew = we at HC2 HBe hHeld ⊢
    refine t2_ 0 26 hHeld ?_
    refine p_ 1 27 ?_
    refine t2_ 2 28 hHeld ?_
    refine p_ 3 29 ?_
    refine p_ 4 30 ?_
    refine t2_ 5 31 hHeld ?_
    refine p_ 6 32 ?_
    refine p_ 7 33 ?_
    refine p_ 8 34 ?_
    refine p_ 9 35 ?_
    refine p_ 10 36 ?_
    have hcs_ : we.cell? ⟨cb, v, none⟩ = _ := hHC.out we HC2.out
    have hfs_ : we.frozen? ⟨cb, v, none⟩ = false := fz_of_blk HC2.out
    refine l_ 11 (fun K hK => ?_)
    refine skip_ (w1 := ?_) (by rfl) rfl ?_ ?_
    rotate_left; (·go_simp; rfl)
    refine hK.out _ _ ?_
    clear hK K hHeld hcs_ hfs_
    refine d_ ?_
    go_wp2
    go_end0
    exact ⟨rfl, by rw [HE.out, ← colC_set]; exact sb_put HC2.out _, HBe.out.setCell ⟨cb, v, none⟩ _ (.inl rfl)⟩
   ·have HE : Aside0 (swE (swT n arcs L) (swW n arcs L ws true) v C (i : Int) = fset C v cv) := ⟨by rw [HSE.out, if_pos ⟨h1, h2⟩]; congr 1; omega⟩
    have hwr : IntKind.i64.wrap (ct + wt) = ct + wt := by rw [i64_w]; unfold wrap64; omega
    have y1 := hHeld.2.1
    have y5 := hHC.out wN HC.out
    clear hHeld
    go_upto_region 2 with (fail)
    refine s_ (fun w' => w'.cell? ⟨b11, 0, none⟩ = some (.slice (some ⟨cb, 0, none⟩) n n) ∧ w'.cell? ⟨cb, v, none⟩ = some (.int .i64 cv)) [11] ⟨y1, y5⟩ (fun hHeld => ?_)
    have HC2 := Aside0.mk (show wN.drew.heap[cb]? = some (.cells (colC n C) 3 (0, 0)) from HC.out)
    have HBe := Aside0.mk (HBd.out.below (below_drew (Below.refl _ _)))
    clear y1 y5
    generalize wN.drew = we at HC2 HBe hHeld ⊢
    refine t2_ 0 26 hHeld ?_
    refine p_ 1 27 ?_
    refine t2_ 2 28 hHeld ?_
    refine p_ 3 29 ?_
    refine p_ 4 30 ?_
    refine t2_ 5 31 hHeld ?_
    refine p_ 6 32 ?_
    refine p_ 7 33 ?_
    refine p_ 8 34 ?_
    refine p_ 9 35 ?_
    refine p_ 10 36 ?_
    have hcs_ : we.cell? ⟨cb, v, none⟩ = _ := hHC.out we HC2.out
    have hfs_ : we.frozen? ⟨cb, v, none⟩ = false := fz_of_blk HC2.out
    refine l_ 11 (fun K hK => ?_)
    refine skip_ (w1 := ?_) (by rfl) rfl ?_ ?_
    rotate_left; (·go_simp; rfl)
    refine hK.out _ _ ?_
    clear hK K hHeld hcs_ hfs_
    refine d_ ?_
    go_wp2
    go_end0
    exact ⟨rfl, by rw [HE.out, ← colC_set]; exact sb_put HC2.out _, HBe.out.setCell ⟨cb, v, none⟩ _ (.inl rfl)⟩
  ·have HE : Aside0 (swE (swT n arcs L) (swW n arcs L ws true) v C (i : Int) = C) := ⟨by rw [HSE.out, if_neg (fun h => h2 h.2)]⟩
   clear hHeld
   go_wp2
   go_end0
   exact ⟨rfl, by rw [HE.out]; exact HC.out, HBd.out⟩
 ·have HE : Aside0 (swE (swT n arcs L) (swW n arcs L ws true) v C (i : Int) = C) := ⟨by rw [HSE.out, if_neg (fun h => h1 h.1)]⟩
  clear hHeld
  go_wp2
  go_end0
  exact ⟨rfl, by rw [HE.out]; exact HC.out, HBd.out⟩
set_option maxHeartbeats 3200000 in
set_option maxRecDepth 100000 in
theorem sweep_relaxT.calls {w : World} {q p n : Nat} {arcs : List S58} {L ws : List Int} {b15 b11 b16 cb : Nat} {eA : Option Addr} {ec : Nat} {C : Nat → Int} (hk : Hk n arcs L) (hn : n ≤ 20) (hX : SwX w q p n arcs L ws true b15 b11 b16 cb eA ec C) {v i : Nat} (hv : v < n) (hi : i < eL n arcs L) :
  Calls Try.prog 90 #[.int .i64 (v : Int), .int .i64 (i : Int), .pointer (some ⟨b15, 0, none⟩), .pointer (some ⟨b11, 0, none⟩), .pointer (some ⟨b16, 0, none⟩)] w fun e w' => e = .returned (.tuple #[]) ∧ w'.heap[cb]? = some (.cells (colC n (swE (swT n arcs L) (swW n arcs L ws false) v C (i : Int))) 3 (0, 0)) ∧ Bel (fun k => k = cb) w w' := by
 obtain ⟨p0, y, hpy, hy, e0, e1, _⟩ := hk.edge_rk hi
 obtain ⟨ht, hte⟩ := hk.vtx_lt hy
 rw [hte] at e1
 have HK := Aside0.mk hk
 have HX := Aside0.mk hX
 have hE := hX.ed
 obtain ⟨eb, eo, rfl, ex0, y3⟩ := edge_cells (show Kd.C k58 w eA (hierS n arcs L).edges.length (hierS n arcs L).edges from hE) (i := i) hi
 rw [show ((hierS n arcs L).edges.getD i z58).f1 = _ from e1] at y3
 have HTT : Aside0 (swT n arcs L (i : Int) = vtx L y) := ⟨by unfold swT; rw [Int.toNat_natCast, e1, Int.toNat_natCast]⟩
 have HWW : Aside0 (swW n arcs L ws false (i : Int) = wtS n arcs L ws false i) := ⟨by unfold swW; rw [Int.toNat_natCast]⟩
 generalize vtx L y = t at ht y3 HTT
 have hwb := wtS_bound (n := n) (arcs := arcs) (L := L) (ws := ws) (b := false) i
 have hcb := hX.rng t ht
 have hvb := hX.rng v hv
 have y0 : w.cell? ⟨b15, 0, none⟩ = some (.func (.func 60) #[.pointer (some ⟨q, 0, none⟩)] #[]) := hX.k15
 have y1 := hX.k11
 have y2 := hX.k16
 have y4 := (blk_cell hX.col t).trans (colC_get ht)
 have HSE : Aside0 (swE (swT n arcs L) (swW n arcs L ws false) v C (i : Int) = if wtS n arcs L ws false i < mInf ∧ C t < mInf then fset C v (min (C v) (C t + wtS n arcs L ws false i)) else C) := ⟨by unfold swE; rw [HTT.out, HWW.out]⟩
 have hHC : Aside0 (∀ W : World, W.heap[cb]? = some (.cells (colC n C) 3 (0, 0)) → W.cell? ⟨cb, v, none⟩ = some (.int .i64 (C v))) := ⟨fun W h => (blk_cell h v).trans (colC_get hv)⟩
 obtain ⟨wt, HWE⟩ : ∃ wt, Aside0 (wtS n arcs L ws false i = wt) := ⟨_, ⟨rfl⟩⟩
 rw [HWE.out] at HSE hwb
 generalize hct : C t = ct at y4 HSE hcb
 generalize hcv : C v = cv at hHC HSE hvb
 obtain ⟨m, HME⟩ : ∃ m, Aside0 (eL n arcs L = m) := ⟨_, ⟨rfl⟩⟩
 rw [HME.out] at y2
 have him : i < m := by have := HME.out; omega
 clear hk hX hE e0 e1 hte ex0 hpy hct hcv
 unfold mInf at hwb hcb hvb
 go_enter Try.func90, Try.ntmps90
 go_upto_region 0 with (fail)
 refine s_ (fun w' => w'.cell? ⟨b15, 0, none⟩ = some (.func (.func 60) #[.pointer (some ⟨q, 0, none⟩)] #[]) ∧ w'.cell? ⟨b11, 0, none⟩ = some (.slice (some ⟨cb, 0, none⟩) n n) ∧ w'.cell? ⟨b16, 0, none⟩ = some (.slice (some ⟨eb, eo, none⟩) m ec) ∧ w'.cell? ⟨eb, eo + i * 2 + 1, none⟩ = some (.int .i64 (t : Int)) ∧ w'.cell? ⟨cb, t, none⟩ = some (.int .i64 ct)) [] ⟨y0, y1, y2, y3, y4⟩ (fun hHeld => ?_)
 have HC := Aside0.mk (show w.drew.heap[cb]? = some (.cells (colC n C) 3 (0, 0)) from HX.out.col)
 have HMd := Aside0.mk (HX.out.met.below (below_drew (Below.refl _ _)))
 have HBd : Aside0 (Bel (fun k => k = cb) w w.drew) := ⟨(Bel.refl _ _).below (below_drew (Below.refl _ _))⟩
 have HDN : Aside0 (Calls Try.prog 60 #[.pointer (some ⟨q, 0, none⟩), .int .i64 (i : Int)] w.drew fun x w' => x = .returned (.int .i64 wt) ∧ w' = w.drew) := ⟨by
  have h1 := Metric_Up.calls (HMd.out.reads HK.out (by omega)) (i : Int)
  rw [sideS_in (l := (sdS n arcs L ws).1) (j := i) (by rw [(sdS_len n arcs L ws).1]; exact hi)] at h1
  rw [← HWE.out]
  exact h1⟩
 clear y0 y1 y2 y3 y4
 generalize w.drew = wd at HC HMd HBd HDN hHeld ⊢
 refine t5_ 0 9 hHeld ?_
 refine p_ 1 10 ?_
 refine t5_ 3 12 hHeld ?_
 refine t5_ 4 13 hHeld ?_
 refine p_ 5 14 ?_
 refine p_ 6 15 ?_
 refine p_ 7 16 ?_
 refine t5_ 8 17 hHeld ?_
 refine p_ 9 18 ?_
 refine t5_ 10 19 hHeld ?_
 refine o_ 2 11 (fun K hK => ?_)
 refine goesM_ Try.func60 (by kernel_rfl) rfl #[.pointer (some ⟨q, 0, none⟩), .int .i64 (i : Int)] (by rfl) rfl rfl rfl byL ?_
 refine (HDN.out).mono ?_
 rintro e wN ⟨rfl, rfl⟩
 refine ⟨_, rfl, ?_⟩
 refine hK.out _ _ ⟨hHeld.1, hHeld.2.1, hHeld.2.2.1, hHeld.2.2.2.1, hHeld.2.2.2.2⟩ (fun hHeld => ?_)
 clear hK K
 refine n_ 11 ?_
 clear HDN
 refine p_ 11 7 ?_
 refine p_ 12 8 ?_
 refine d_ ?_
 by_cases h1 : wt < 1152921504606846976
 ·by_cases h2 : ct < 1152921504606846976
  ·by_cases h3 : ct + wt < cv
   ·have HE : Aside0 (swE (swT n arcs L) (swW n arcs L ws false) v C (i : Int) = fset C v (ct + wt)) := ⟨by rw [HSE.out, if_pos ⟨h1, h2⟩]; congr 1; omega⟩
    have hwr : IntKind.i64.wrap (ct + wt) = ct + wt := by rw [i64_w]; unfold wrap64; omega
    have y1 := hHeld.2.1
    have y5 := hHC.out wN HC.out
    clear hHeld
    go_upto_region 2 with (fail)
    refine s_ (fun w' => w'.cell? ⟨b11, 0, none⟩ = some (.slice (some ⟨cb, 0, none⟩) n n) ∧ w'.cell? ⟨cb, v, none⟩ = some (.int .i64 cv)) [11] ⟨y1, y5⟩ (fun hHeld => ?_)
    have HC2 := Aside0.mk (show wN.drew.heap[cb]? = some (.cells (colC n C) 3 (0, 0)) from HC.out)
    have HBe := Aside0.mk (HBd.out.below (below_drew (Below.refl _ _)))
    clear y1 y5
    generalize wN.drew = we at HC2 HBe hHeld ⊢
    refine t2_ 0 26 hHeld ?_
    refine p_ 1 27 ?_
    refine t2_ 2 28 hHeld ?_
    refine p_ 3 29 ?_
    refine p_ 4 30 ?_
    refine t2_ 5 31 hHeld ?_
    refine p_ 6 32 ?_
    refine p_ 7 33 ?_
    refine p_ 8 34 ?_
    refine p_ 9 35 ?_
    refine p_ 10 36 ?_
    have hcs_ : we.cell? ⟨cb, v, none⟩ = _ := hHC.out we HC2.out
    have hfs_ : we.frozen? ⟨cb, v, none⟩ = false := fz_of_blk HC2.out
    refine l_ 11 (fun K hK => ?_)
    refine skip_ (w1 := ?_) (by rfl) rfl ?_ ?_
    rotate_left; (·go_simp; rfl)
    refine hK.out _ _ ?_
    clear hK K hHeld hcs_ hfs_
    refine d_ ?_
    go_wp2
    go_end0
    exact ⟨rfl, by rw [HE.out, ← colC_set]; exact sb_put HC2.out _, HBe.out.setCell ⟨cb, v, none⟩ _ (.inl rfl)⟩
   ·have HE : Aside0 (swE (swT n arcs L) (swW n arcs L ws false) v C (i : Int) = fset C v cv) := ⟨by rw [HSE.out, if_pos ⟨h1, h2⟩]; congr 1; omega⟩
    have hwr : IntKind.i64.wrap (ct + wt) = ct + wt := by rw [i64_w]; unfold wrap64; omega
    have y1 := hHeld.2.1
    have y5 := hHC.out wN HC.out
    clear hHeld
    go_upto_region 2 with (fail)
    refine s_ (fun w' => w'.cell? ⟨b11, 0, none⟩ = some (.slice (some ⟨cb, 0, none⟩) n n) ∧ w'.cell? ⟨cb, v, none⟩ = some (.int .i64 cv)) [11] ⟨y1, y5⟩ (fun hHeld => ?_)
    have HC2 := Aside0.mk (show wN.drew.heap[cb]? = some (.cells (colC n C) 3 (0, 0)) from HC.out)
    have HBe := Aside0.mk (HBd.out.below (below_drew (Below.refl _ _)))
    clear y1 y5
    generalize wN.drew = we at HC2 HBe hHeld ⊢
    refine t2_ 0 26 hHeld ?_
    refine p_ 1 27 ?_
    refine t2_ 2 28 hHeld ?_
    refine p_ 3 29 ?_
    refine p_ 4 30 ?_
    refine t2_ 5 31 hHeld ?_
    refine p_ 6 32 ?_
    refine p_ 7 33 ?_
    refine p_ 8 34 ?_
    refine p_ 9 35 ?_
    refine p_ 10 36 ?_
    have hcs_ : we.cell? ⟨cb, v, none⟩ = _ := hHC.out we HC2.out
    have hfs_ : we.frozen? ⟨cb, v, none⟩ = false := fz_of_blk HC2.out
    refine l_ 11 (fun K hK => ?_)
    refine skip_ (w1 := ?_) (by rfl) rfl ?_ ?_
    rotate_left; (·go_simp; rfl)
    refine hK.out _ _ ?_
    clear hK K hHeld hcs_ hfs_
    refine d_ ?_
    go_wp2
    go_end0
    exact ⟨rfl, by rw [HE.out, ← colC_set]; exact sb_put HC2.out _, HBe.out.setCell ⟨cb, v, none⟩ _ (.inl rfl)⟩
  ·have HE : Aside0 (swE (swT n arcs L) (swW n arcs L ws false) v C (i : Int) = C) := ⟨by rw [HSE.out, if_neg (fun h => h2 h.2)]⟩
   clear hHeld
   go_wp2
   go_end0
   exact ⟨rfl, by rw [HE.out]; exact HC.out, HBd.out⟩
 ·have HE : Aside0 (swE (swT n arcs L) (swW n arcs L ws false) v C (i : Int) = C) := ⟨by rw [HSE.out, if_neg (fun h => h1 h.1)]⟩
  clear hHeld
  go_wp2
  go_end0
  exact ⟨rfl, by rw [HE.out]; exact HC.out, HBd.out⟩
end Go.Proofs.Ytfnophaiamkmpaa.Print
