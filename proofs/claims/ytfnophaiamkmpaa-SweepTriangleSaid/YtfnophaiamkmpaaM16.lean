/- Several texts of this claim in one: HKNew, HKREdges. -/
import Derived.Test.YtfnophaiamkmpaaHKNewR
import Derived.Test.YtfnophaiamkmpaaM11
import Derived.Test.YtfnophaiamkmpaaM15
namespace Go.Proofs.Ytfnophaiamkmpaa.Print
open Go.RowKit Go.Proofs.YtfnophaiamkmpaaW.PrintWords Go.Proofs.YtfnophaiamkmpaaW.PrintLast Go.Proofs.YtfnophaiamkmpaaW.PrintMore
set_option linter.unusedVariables false
set_option linter.unusedSimpArgs false
theorem below_tr {B : Nat} {w w1 w2 : World} (h : Below B w w1) (k : Below B w1 w2) : Below B w w2 := ⟨k.os.trans h.os, k.tape.trans h.tape, k.output.trans h.output, Nat.le_trans h.size k.size, fun j hj => (k.block j hj).trans (h.block j hj)⟩
theorem RowsIs.reads {w : World} {base B t : Nat} {o : Tags} {vs : Nat → Value} {rs : List (List Int)} (h : RowsIs w base B t o vs rs) (hl : rs.length ≤ 1000000000) : Kd.C (Kd.slice 3 (Kd.int .i64)) w (some ⟨B, 0, none⟩) rs.length rs := by
 refine ⟨rfl, by omega, fun _ => ⟨_, rfl, fun j p hj => ?_⟩⟩
 have hjl : j < rs.length := (List.getElem?_eq_some_iff.1 hj).1
 have hp : rs.getD j [] = p := by rw [List.getD_eq_getElem?_getD, hj]; rfl
 have hr := h.row j hjl
 rw [hp] at hr
 obtain ⟨A, c, hv, hc, hC⟩ := Kd.R_reads hr
 refine ⟨[vs j], rfl, ⟨A, c, by rw [hv], hc, hC⟩, fun i u hu => ?_⟩
 have hi : i = 0 := by
  rcases Nat.eq_zero_or_pos i with h0 | h0
  ·exact h0
  ·rw [List.getElem?_eq_none (by simp; omega)] at hu
   cases hu
 subst hi
 have hu' : vs j = u := by simpa using hu
 subst hu'
 show w.cell? ((⟨B, 0, none⟩ : Addr).add (j * 1 + 0)) = _
 rw [Addr.add_lit, Nat.mul_one, Nat.add_zero, Nat.zero_add]
 exact h.cell j hjl
theorem EIs.reads {w : World} {base p Bh : Nat} {o : Tags} {n : Nat} {gv ov rv ev : Value} {mb Bu cu Bd cd : Nat} {vu vd vh : Nat → Value} {arcs : List S58} {L R : List Int} {H : List (List Int)} {S : HSt} (h : EIs w base p Bh o n gv ov rv ev mb Bu cu Bd cd vu vd vh arcs L R H S) (hn : n ≤ 1000) (hcu : n ≤ cu) (hcd : n ≤ cd) : HierR w p n arcs L R S := by
 obtain ⟨gA, gc, hg, hgc, hgC⟩ := Kd.R_reads h.red.arc
 obtain ⟨oA, oc, ho, hoc, hoC⟩ := Kd.R_reads h.red.ord
 obtain ⟨rA, rc, hr, hrc, hrC⟩ := Kd.R_reads h.red.rnk
 obtain ⟨eA, ec, he, hec, heC⟩ := Kd.R_reads h.hier.ed
 have hb := h.hier.blk
 rw [hg, ho, hr, he] at hb
 have hlu := h.hier.lenu
 have hld := h.hier.lend
 exact ⟨gA, gc, oA, oc, rA, rc, eA, ec, mb, some ⟨Bu, 0, none⟩, cu, some ⟨Bd, 0, none⟩, cd, by rw [hlu, hld]; exact hb, ⟨hgC, hgc⟩, ⟨hoC, hoc⟩, ⟨hrC, hrc⟩, ⟨heC, hec⟩, h.hier.mp, ⟨h.hier.up.reads (by omega), by omega⟩, ⟨h.hier.down.reads (by omega), by omega⟩⟩
def hst0 (n : Nat) : HSt := ⟨[], [], List.replicate n [], List.replicate n []⟩
def hierS (n : Nat) (arcs : List S58) (L : List Int) : HSt := elimS n L (ranksTo L L.length) (nbRows n arcs) (hst0 n)
def newErr (N : Int) (arcs : List S58) (L : List Int) : Int := if chk N arcs ≠ 0 then chk N arcs else ordGo N L.length [] L
set_option maxHeartbeats 3200000 in
set_option maxRecDepth 100000 in
theorem contract_New.calls {w : World} {N : Int} {gA : Option Addr} {gc : Nat} {arcs : List S58} {lA : Option Addr} {lc : Nat} {L : List Int} (hg : Kd.C k58 w gA arcs.length arcs) (hgc : arcs.length ≤ gc) (hl : Kd.C (Kd.int .i64) w lA L.length L) (hlc : L.length ≤ lc)
  (hN : N ≤ 1000 ∨ N > 1048576) (hal : arcs.length ≤ 1000000) (hll : L.length ≤ 1000000) :
  Calls Try.prog 26 #[.agg #[.int .i64 N, .slice gA arcs.length gc], .slice lA L.length lc] w fun e w' => Below w.heap.size w w' ∧
   ((newErr N arcs L ≠ 0 ∧ e = .returned (.tuple #[.pointer none, .int .i64 (newErr N arcs L)])) ∨
     (newErr N arcs L = 0 ∧ ∃ p, e = .returned (.tuple #[.pointer (some ⟨p, 0, none⟩), .int .i64 0]) ∧ HierR w' p N.toNat arcs L (ranksTo L L.length) (hierS N.toNat arcs L))) := by
 obtain ⟨kc, hkc⟩ := graph_Check.ev N arcs (by omega)
 have HKC := Aside0.mk (hkc kc (Nat.le_refl _))
 have HG := Aside0.mk hg
 have HL := Aside0.mk hl
 have HGC := Aside0.mk hgc
 have HLC := Aside0.mk hlc
 clear hg hl hgc hlc hkc
 go_enter Try.func26, Try.ntmps26
 go_upto_region 1 with (fail)
 have HBK := Aside0.mk (heap_alloc_new w (Obj.cells #[.int .i64 N, .slice gA arcs.length gc] 24))
 have HBE : Below w.heap.size w (w.alloc (Obj.cells #[.int .i64 N, .slice gA arcs.length gc] 24)) := (Below.refl _ _).alloc (Nat.le_refl _) _
 have HG1 := Aside0.mk (Kd.C_below HG.out HBE)
 have HL1 := Aside0.mk (Kd.C_below HL.out HBE)
 have HB1 := Aside0.mk HBE
 have HS1 : Aside0 ((w.alloc (Obj.cells #[.int .i64 N, .slice gA arcs.length gc] 24)).heap.size = w.heap.size + 1) := ⟨by show (w.heap.push _).size = _; rw [Array.size_push]⟩
 generalize w.alloc (Obj.cells #[.int .i64 N, .slice gA arcs.length gc] 24) = w1 at HBK HG1 HL1 HB1 HS1 ⊢
 clear HBE HG HL
 have hc0 := (blk_cell HBK.out 0).trans rfl
 have hc1 := (blk_cell HBK.out 1).trans rfl
 go_wp2_with (fail)
 refine (graph_Check.calls kc N gA gc arcs (chk N arcs) _ HG1.out HGC.out HKC.out).mono ?_
 rintro e w2 ⟨rfl, hb2⟩
 have HBK2 := Aside0.mk (blk_below HBK.out hb2)
 have HG2 := Aside0.mk (Kd.C_below HG1.out hb2)
 have HL2 := Aside0.mk (Kd.C_below HL1.out hb2)
 have HB2 := Aside0.mk (below_more HB1.out (Nat.le_refl _) hb2)
 have HS2 : Aside0 (w.heap.size + 1 ≤ w2.heap.size) := ⟨by rw [← HS1.out]; exact hb2.size⟩
 clear hc0 hc1 hb2 HBK HG1 HL1 HB1 HS1
 by_cases hchk : chk N arcs = 0
 ·rw [hchk]
  have hc0 := (blk_cell HBK2.out 0).trans rfl
  go_wp2_with (fail)
  refine (order_Check.calls N lA lc L (ordGo N L.length [] L) _ HL2.out HLC.out rfl).mono ?_
  rintro e w3 ⟨rfl, hb3⟩
  have HBK3 := Aside0.mk (blk_below HBK2.out hb3)
  have HG3 := Aside0.mk (Kd.C_below HG2.out hb3)
  have HL3 := Aside0.mk (Kd.C_below HL2.out hb3)
  have HB3 := Aside0.mk (below_more HB2.out (Nat.le_refl _) hb3)
  have HS3 : Aside0 (w.heap.size + 1 ≤ w3.heap.size) := ⟨Nat.le_trans HS2.out hb3.size⟩
  clear hc0 hb3 HBK2 HG2 HL2 HB2 HS2
  by_cases hord : ordGo N L.length [] L = 0
  ·rw [hord]
   obtain ⟨hN0, hN1, _⟩ := chk_ok hchk
   obtain ⟨n, rfl⟩ := Int.eq_ofNat_of_zero_le hN0
   have hn : n ≤ 1000 := by omega
   have hIO := isOrd_of hN0 hord
   rw [Int.toNat_natCast] at hIO
   have HIO := Aside0.mk hIO
   obtain ⟨kr, hkr⟩ := order_Ranks.ev L (by omega)
   have hkr2 := hkr kr (Nat.le_refl _)
   unfold ranksS at hkr2
   rw [if_pos (ord_self hN0 hord)] at hkr2
   have HKR := Aside0.mk hkr2
   have HNE : Aside0 (newErr (n : Int) arcs L = 0) := ⟨by unfold newErr; rw [if_neg (fun h => h hchk), hord]⟩
   have HCK := Aside0.mk hchk
   have HLL := Aside0.mk hll
   clear hkr hkr2 hIO hord hchk hN hN0 hN1
   have HINV : Aside0 (NInv w3 w3.drew w3.heap.size w.heap.size (fun _ => (0, 0)) n gA gc lA lc arcs L (ranksTo L L.length) 0 false false false undef undef undef undef undef undef) := ⟨⟨(blk_cell HBK3.out 0).trans rfl, (blk_cell HBK3.out 1).trans rfl, Kd.C_drew HG3.out, Kd.C_drew HL3.out, Nat.le_refl _, below_drew (Below.refl _ _), Nat.le_refl _, fun _ _ => rfl, fun h => absurd h (by decide), fun h => absurd h (by decide), fun h => absurd h (by decide), fun h => absurd h (by decide), fun h => absurd h (by decide), fun h => absurd h (by decide)⟩⟩
   go_upto_region 7 with (fail)
   refine new_region (by omega) hal HLL.out HLC.out HKR.out (fun _ _ _ d _ h => by cases d <;> exact h) ?_ HINV.out
   intro w4 o v25 v26 v28 v30 v31 v34 v37 he hinv
   obtain ⟨mb, rfl, hmp, hmt, hml⟩ := hinv.hM rfl
   obtain ⟨Bu, rfl, hub, hut, hul⟩ := hinv.hU rfl
   obtain ⟨Bd, rfl, hdb, hdt, hdl⟩ := hinv.hD rfl
   have hbp : Below w4.heap.size w4 (w4.alloc (.cells #[.int .i64 (n : Int), v25, v28, v30, .slice none 0 0, .map (some mb), .slice (some ⟨Bu, 0, none⟩) n n, .slice (some ⟨Bd, 0, none⟩) n n] 108 (0, 0))) := (Below.refl _ _).alloc (Nat.le_refl _) _
   have hmv := hinv.move hbp (6, 0)
   have hAr := hmv.hA (by decide)
   have hOr := hmv.hL (by decide)
   have hRr := hmv.hR (by decide)
   have hpb := heap_alloc_new w4 (.cells #[.int .i64 (n : Int), v25, v28, v30, .slice none 0 0, .map (some mb), .slice (some ⟨Bu, 0, none⟩) n n, .slice (some ⟨Bd, 0, none⟩) n n] 108 (0, 0))
   have hpt : tagNew o w4.heap.size (6, 0) w4.heap.size = (6, 0) := tagNew_new (Nat.le_refl _)
   have hub1 := (hbp.block Bu (hblk_lt hub)).trans hub
   have hdb1 := (hbp.block Bd (hblk_lt hdb)).trans hdb
   have hut1 : tagNew o w4.heap.size (6, 0) Bu = (2, 0) := by rw [tagNew_old (hblk_lt hub)]; exact hut
   have hdt1 : tagNew o w4.heap.size (6, 0) Bd = (3, 0) := by rw [tagNew_old (hblk_lt hdb)]; exact hdt
   have hmt1 : tagNew o w4.heap.size (6, 0) mb = (5, 0) := by rw [tagNew_old hmp.lt]; exact hmt
   have hH := Aside0.mk (⟨hpb, hpt, Kd.R_nil _ _ _ _ _, hmp.below hbp, hmt1, RowsIs.made hub1 hut1 hul, RowsIs.made hdb1 hdt1 hdl, List.length_replicate .., List.length_replicate .., hinv.blo, hml⟩ : HierIs _ w3.heap.size w4.heap.size (tagNew o w4.heap.size (6, 0)) n v25 v28 v30 (.slice none 0 0) mb Bu n Bd n (fun _ => .slice none 0 0) (fun _ => .slice none 0 0) (hst0 n))
   have hRI := Aside0.mk (⟨hAr, hOr, hRr⟩ : RIs _ w3.heap.size (tagNew o w4.heap.size (6, 0)) v25 v28 v30 arcs L (ranksTo L L.length))
   have hlow := Aside0.mk hmv.low
   have hbel := Aside0.mk hmv.bel
   clear hmv hAr hOr hRr hpb hpt hub1 hdb1 hut1 hdt1 hmt1 hbp hmp hmt hml hub hut hul hdb hdt hdl hinv HINV HKR
   generalize w4.alloc (.cells #[.int .i64 (n : Int), v25, v28, v30, .slice none 0 0, .map (some mb), .slice (some ⟨Bu, 0, none⟩) n n, .slice (some ⟨Bd, 0, none⟩) n n] 108 (0, 0)) = w5 at hH hRI hbel ⊢
   generalize w4.heap.size = p at hH hRI hlow ⊢
   go_wp2_with (fail)
   refine (Hier_eliminate.calls hH.out hRI.out hn hal HCK.out ?_ ?_ HIO.out.len ?_ ?_ hlow.out).mono ?_
   ·rw [ranksTo_length]; exact HIO.out.len
   ·intro v hv
    obtain ⟨j, hj, _, h2⟩ := ranks_val HIO.out.nd (fun v hv => by have := HIO.out.rng v hv; rw [HIO.out.len]; exact this) v (by rw [HIO.out.len]; exact hv)
    have h3 : (ranksTo L L.length).getD v 0 = (j : Int) := by rw [List.getD_eq_getElem?_getD, h2]; rfl
    rw [h3]
    have := HIO.out.len
    omega
   ·intro v hv
    have h1 : v < L.length := by rw [HIO.out.len]; exact hv
    have h2 := HIO.out.rng _ (List.getElem_mem h1)
    rw [List.getD_eq_getElem?_getD, List.getElem?_eq_getElem h1]
    exact h2
   ·exact ⟨List.length_replicate .., List.length_replicate .., Nat.le_refl _, fun r => by unfold hst0; by_cases hr : r < n <;> simp [hr], fun r => by unfold hst0; by_cases hr : r < n <;> simp [hr]⟩
   rintro e w6 ⟨rfl, hb6, Bh, o6, ev6, vu6, vd6, vh6, H6, hE6⟩
   have HR := Aside0.mk (hE6.reads hn (Nat.le_refl _) (Nat.le_refl _))
   have HBF : Aside0 (Below w.heap.size w w6) := ⟨below_then HB3.out (Nat.le_trans (Nat.le_succ _) HS3.out) (below_tr hbel.out hb6)⟩
   clear hb6 hE6 hH hRI hlow hbel
   go_wp2
   go_ret2
   exact ⟨HBF.out, Or.inr ⟨HNE.out, _, rfl, by rw [Int.toNat_natCast]; exact HR.out⟩⟩
  ·have HE : Aside0 (newErr N arcs L = ordGo N L.length [] L) := ⟨by unfold newErr; rw [if_neg (fun h => h hchk)]⟩
   have HNE : Aside0 (ordGo N L.length [] L ≠ 0) := ⟨hord⟩
   have hne : ¬ ordGo N L.length [] L = 0 := hord
   generalize ordGo N L.length [] L = oe at HE HNE hne ⊢
   go_wp2
   go_ret2
   exact ⟨HB3.out, Or.inl ⟨by rw [HE.out]; exact HNE.out, by rw [HE.out]; rfl⟩⟩
 ·have HE : Aside0 (newErr N arcs L = chk N arcs) := ⟨by unfold newErr; rw [if_pos hchk]⟩
  have HNE : Aside0 (chk N arcs ≠ 0) := ⟨hchk⟩
  generalize chk N arcs = oe at HE HNE hchk ⊢
  go_wp2
  go_ret2
  exact ⟨HB2.out, Or.inl ⟨by rw [HE.out]; exact HNE.out, by rw [HE.out]; rfl⟩⟩
/-! ### What it gathers -/
def laterS (l of : List Int) (i : Nat) : List Int := (l.drop (i + 1)).filter (fun x => decide (x ∈ of))
def e3step (up : List Int) (k : Nat) (N : List (List Int)) (j : Nat) : List (List Int) := if j ≠ k then N.set (up.getD k 0).toNat (ins (up.getD j 0) (N.getD (up.getD k 0).toNat [])) else N
def e3upto (up : List Int) (k : Nat) (N : List (List Int)) : Nat → List (List Int)
 | 0 => N
 | j + 1 => e3step up k (e3upto up k N j) j
def e2upto (v : Int) (up : List Int) (st : List S58 × List (List Int)) : Nat → List S58 × List (List Int)
 | 0 => st
 | k + 1 => ((e2upto v up st k).1 ++ [⟨v, up.getD k 0⟩], e3upto up k (e2upto v up st k).2 up.length)
def e1step (l : List Int) (st : List S58 × List (List Int)) (i : Nat) : List S58 × List (List Int) :=
 e2upto (l.getD i 0) (laterS l (st.2.getD (l.getD i 0).toNat []) i) st (laterS l (st.2.getD (l.getD i 0).toNat []) i).length
def e1upto (l : List Int) (st : List S58 × List (List Int)) : Nat → List S58 × List (List Int)
 | 0 => st
 | i + 1 => e1step l (e1upto l st i) i
def redges (n : Nat) (arcs : List S58) (l : List Int) : List S58 := (e1upto l ([], nbRows n arcs) l.length).1
structure NGood (n : Nat) (N : List (List Int)) : Prop where
 len : N.length = n
 inc : ∀ v, Inc (N.getD v [])
 rng : ∀ v x, x ∈ N.getD v [] → 0 ≤ x ∧ x < (n : Int)
theorem NGood.short {n : Nat} {N : List (List Int)} (h : NGood n N) (v : Nat) : (N.getD v []).length ≤ n := inc_len_n (h.inc v) (h.rng v)
theorem NGood.put {n : Nat} {N : List (List Int)} (h : NGood n N) {i : Nat} {x : Int} (hx : 0 ≤ x ∧ x < (n : Int)) : NGood n (N.set i (ins x (N.getD i []))) := by
 refine ⟨by rw [List.length_set]; exact h.len, fun v => ?_, fun v y hy => ?_⟩
 ·rw [getD_set_list]
  split
  ·exact inc_ins (h.inc i)
  ·exact h.inc v
 ·rw [getD_set_list] at hy
  split at hy
  ·rcases mem_ins.1 hy with rfl | hy
   ·exact hx
   ·exact h.rng i y hy
  ·exact h.rng v y hy
theorem NGood.start {n : Nat} {arcs : List S58} (hc : chk (n : Int) arcs = 0) : NGood n (nbRows n arcs) := by
 refine ⟨nbRows_length n arcs, fun v => ?_, fun v => (nb_good hc v).1⟩
 by_cases hv : v < n
 ·have h1 : (nbRows n arcs).getD v [] = nbS arcs (v : Int) := by
   rw [List.getD_eq_getElem?_getD, List.getElem?_eq_getElem (by rw [nbRows_length]; exact hv), Option.getD_some, nbRows_get]
  rw [h1]
  exact inc_setOf _
 ·have h1 : (nbRows n arcs).getD v [] = [] := by
   rw [List.getD_eq_getElem?_getD, List.getElem?_eq_none (by rw [nbRows_length]; omega)]
   rfl
  rw [h1]
  exact List.Pairwise.nil
theorem mem_getD {l : List Int} {i : Nat} (h : i < l.length) : l.getD i 0 ∈ l := by
 rw [List.getD_eq_getElem?_getD, List.getElem?_eq_getElem h]
 exact List.getElem_mem h
theorem e3step_good {n : Nat} {up : List Int} {N : List (List Int)} (h : NGood n N) (hu : ∀ x ∈ up, 0 ≤ x ∧ x < (n : Int)) {k j : Nat} (hj : j < up.length) : NGood n (e3step up k N j) := by
 unfold e3step
 split
 ·exact h.put (hu _ (mem_getD hj))
 ·exact h
theorem e3upto_good {n : Nat} {up : List Int} {N : List (List Int)} (h : NGood n N) (hu : ∀ x ∈ up, 0 ≤ x ∧ x < (n : Int)) {k : Nat} : ∀ j, j ≤ up.length → NGood n (e3upto up k N j)
 | 0, _ => h
 | j + 1, hj => e3step_good (e3upto_good h hu j (by omega)) hu (by omega)
/-! ### Rows that are replaced -/
structure NearIs (w : World) (base B : Nat) (N : List (List Int)) : Prop where
 blk : ∃ cs : Array Value, w.heap[B]? = some (.cells cs 25 (0, 0)) ∧ ∀ i, i < N.length → ∃ v, cs[i]? = some v ∧ Kd.R (Kd.int .i64) 3 w base (fun _ => True) v (N.getD i [])
 lo : base ≤ B
theorem NearIs.below {w w1 : World} {base B : Nat} {N : List (List Int)} (h : NearIs w base B N) (hb : Below w.heap.size w w1) : NearIs w1 base B N := by
 obtain ⟨cs, h1, h2⟩ := h.blk
 refine ⟨⟨cs, (hb.block B (hblk_lt h1)).trans h1, fun i hi => ?_⟩, h.lo⟩
 obtain ⟨v, h3, h4⟩ := h2 i hi
 exact ⟨v, h3, Kd.R_below h4 hb⟩
theorem NearIs.grown {w w1 : World} {base B : Nat} {N : List (List Int)} (h : NearIs w base B N) {row : Option Nat} (hg : w.grownBy w1 row) (ht : ∀ k, row = some k → ∃ cells, w.heap[k]? = some (.cells cells 58 (0, 0))) : NearIs w1 base B N := by
 obtain ⟨cs, h1, h2⟩ := h.blk
 refine ⟨⟨cs, (hg.block B (hblk_lt h1) (fun e => ?_)).trans h1, fun i hi => ?_⟩, h.lo⟩
 ·obtain ⟨c2, h3⟩ := ht B e.symm
  rw [h1] at h3
  simp at h3
 ·obtain ⟨v, h3, h4⟩ := h2 i hi
  refine ⟨v, h3, Kd.R_move (Kd.R_bound h4) (fun k hk => hg.block k hk.2.2.1 (fun e => ?_)) |> fun x => Kd.R_mono x (fun _ _ => trivial)⟩
  obtain ⟨c2, h5⟩ := ht k e.symm
  obtain ⟨_, _, _, q, hq, c3, h6⟩ := hk
  rw [h5] at h6
  have hq2 : q = 3 := List.mem_singleton.1 (show q ∈ [3] from hq)
  subst hq2
  simp at h6
theorem NearIs.put {w : World} {base B : Nat} {N : List (List Int)} (h : NearIs w base B N) {i : Nat} {v : Value} {r : List Int} (hr : Kd.R (Kd.int .i64) 3 w base (fun _ => True) v r) : NearIs (w.setCell ⟨B, i, none⟩ v) base B (N.set i r) := by
 obtain ⟨cs, h1, h2⟩ := h.blk
 have hfar : ∀ (u : Value) (q : List Int), Kd.R (Kd.int .i64) 3 w base (fun _ => True) u q → Kd.R (Kd.int .i64) 3 (w.setCell ⟨B, i, none⟩ v) base (fun _ => True) u q := fun u q hq =>
  Kd.R_mono (Kd.R_far (Kd.R_types hq h1 (fun q hq => by
   have hq2 : q = 3 := List.mem_singleton.1 (show q ∈ [3] from hq)
   subst hq2
   decide)) (p := ⟨B, i, none⟩) (fun k hk => hk.2) v) (fun _ _ => trivial)
 refine ⟨⟨cs.setIfInBounds i v, by simp [World.setCell, Array.getElem?_modify, h1], fun j hj => ?_⟩, h.lo⟩
 rw [List.length_set] at hj
 obtain ⟨u, h3, h4⟩ := h2 j hj
 by_cases e : i = j
 ·subst e
  refine ⟨v, ?_, ?_⟩
  ·rw [Array.getElem?_setIfInBounds, if_pos rfl, if_pos (Array.getElem?_eq_some_iff.1 h3).1]
  ·have hget : (N.set i r).getD i [] = r := by simp [List.getElem?_set, hj]
   rw [hget]
   exact hfar v r hr
 ·refine ⟨u, ?_, ?_⟩
  ·rw [Array.getElem?_setIfInBounds, if_neg e]
   exact h3
  ·have hget : (N.set i r).getD j [] = N.getD j [] := by
    rw [List.getD_eq_getElem?_getD, List.getElem?_set, if_neg e, ← List.getD_eq_getElem?_getD]
   rw [hget]
   exact hfar u _ h4
theorem NearIs.at {w : World} {base B : Nat} {N : List (List Int)} (h : NearIs w base B N) {i : Nat} (hi : i < N.length) : ∃ A c, w.cell? ⟨B, i, none⟩ = some (.slice A (N.getD i []).length c) ∧ Kd.R (Kd.int .i64) 3 w base (fun _ => True) (.slice A (N.getD i []).length c) (N.getD i []) ∧ w.frozen? ⟨B, i, none⟩ = false := by
 obtain ⟨cs, h1, h2⟩ := h.blk
 obtain ⟨v, h3, h4⟩ := h2 i hi
 obtain ⟨A, c, rfl⟩ := Kd.R_slice h4
 exact ⟨A, c, (blk_cell h1 i).trans h3, h4, blk_frozen h1 i⟩
end Go.Proofs.Ytfnophaiamkmpaa.Print
