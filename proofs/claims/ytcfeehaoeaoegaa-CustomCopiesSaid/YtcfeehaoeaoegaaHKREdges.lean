import Derived.Test.YtcfeehaoeaoegaaM17
import Derived.Test.YtcfeehaoeaoegaaM18
import Derived.Test.YtcfeehaoeaoegaaM19
namespace Go.Proofs.Ytcfeehaoeaoegaa.Print
open Go.RowKit Go.Proofs.YtcfeehaoeaoegaaW.PrintWords Go.Proofs.YtcfeehaoeaoegaaW.PrintLast Go.Proofs.YtcfeehaoeaoegaaW.PrintMore
set_option linter.unusedVariables false
set_option linter.unusedSimpArgs false

/-! ### What it gathers -/
def laterS (l of : List Int) (i : Nat) : List Int := (l.drop (i + 1)).filter (fun x => decide (x ∈ of))
def e3step (up : List Int) (k : Nat) (N : List (List Int)) (j : Nat) : List (List Int) := if j ≠ k then N.set (up.getD k 0).toNat (ins (up.getD j 0) (N.getD (up.getD k 0).toNat [])) else N
def e3upto (up : List Int) (k : Nat) (N : List (List Int)) : Nat → List (List Int)
 | 0 => N
 | j + 1 => e3step up k (e3upto up k N j) j
def e2upto (v : Int) (up : List Int) (st : List S38 × List (List Int)) : Nat → List S38 × List (List Int)
 | 0 => st
 | k + 1 => ((e2upto v up st k).1 ++ [⟨v, up.getD k 0⟩], e3upto up k (e2upto v up st k).2 up.length)
def e1step (l : List Int) (st : List S38 × List (List Int)) (i : Nat) : List S38 × List (List Int) :=
 e2upto (l.getD i 0) (laterS l (st.2.getD (l.getD i 0).toNat []) i) st (laterS l (st.2.getD (l.getD i 0).toNat []) i).length
def e1upto (l : List Int) (st : List S38 × List (List Int)) : Nat → List S38 × List (List Int)
 | 0 => st
 | i + 1 => e1step l (e1upto l st i) i
def redges (n : Nat) (arcs : List S38) (l : List Int) : List S38 := (e1upto l ([], nbRows n arcs) l.length).1
def redgesS (N : Int) (arcs : List S38) (l : List Int) : List S38 := if newErr N arcs l = 0 then redges N.toNat arcs l else []
def mapmakerref40_Edges.f (a0 : Int) (l : List S38) (L : List Int) : Option (List S38) := if l.length ≤ 1000000 ∧ L.length ≤ 1000000 ∧ (a0 ≤ 1000 ∨ a0 > 1048576) then some (redgesS a0 l L) else none

structure NGood (n : Nat) (N : List (List Int)) : Prop where
 len : N.length = n
 inc : ∀ v, Inc (N.getD v [])
 rng : ∀ v x, x ∈ N.getD v [] → 0 ≤ x ∧ x < (n : Int)
theorem NGood.short {n : Nat} {N : List (List Int)} (h : NGood n N) (v : Nat) : (N.getD v []).length ≤ n := inc_len_n (h.inc v) (h.rng v)
theorem NGood.put {n : Nat} {N : List (List Int)} (h : NGood n N) {i : Nat} {x : Int} (hx : 0 ≤ x ∧ x < (n : Int)) : NGood n (N.set i (ins x (N.getD i []))) := by
 refine ⟨by rw [List.length_set]; exact h.len, fun v => ?_, fun v y hy => ?_⟩
 ·rw [getD_set_list]
  split
  ·exact inc_ins (h.inc i)
  ·exact h.inc v
 ·rw [getD_set_list] at hy
  split at hy
  ·rcases mem_ins.1 hy with rfl | hy
   ·exact hx
   ·exact h.rng i y hy
  ·exact h.rng v y hy
theorem NGood.start {n : Nat} {arcs : List S38} (hc : chk (n : Int) arcs = 0) : NGood n (nbRows n arcs) := by
 refine ⟨nbRows_length n arcs, fun v => ?_, fun v => (nb_good hc v).1⟩
 by_cases hv : v < n
 ·have h1 : (nbRows n arcs).getD v [] = nbS arcs (v : Int) := by
   rw [List.getD_eq_getElem?_getD, List.getElem?_eq_getElem (by rw [nbRows_length]; exact hv), Option.getD_some, nbRows_get]
  rw [h1]
  exact inc_setOf _
 ·have h1 : (nbRows n arcs).getD v [] = [] := by
   rw [List.getD_eq_getElem?_getD, List.getElem?_eq_none (by rw [nbRows_length]; omega)]
   rfl
  rw [h1]
  exact List.Pairwise.nil
theorem mem_getD {l : List Int} {i : Nat} (h : i < l.length) : l.getD i 0 ∈ l := by
 rw [List.getD_eq_getElem?_getD, List.getElem?_eq_getElem h]
 exact List.getElem_mem h
theorem e3step_good {n : Nat} {up : List Int} {N : List (List Int)} (h : NGood n N) (hu : ∀ x ∈ up, 0 ≤ x ∧ x < (n : Int)) {k j : Nat} (hj : j < up.length) : NGood n (e3step up k N j) := by
 unfold e3step
 split
 ·exact h.put (hu _ (mem_getD hj))
 ·exact h
theorem e3upto_good {n : Nat} {up : List Int} {N : List (List Int)} (h : NGood n N) (hu : ∀ x ∈ up, 0 ≤ x ∧ x < (n : Int)) {k : Nat} : ∀ j, j ≤ up.length → NGood n (e3upto up k N j)
 | 0, _ => h
 | j + 1, hj => e3step_good (e3upto_good h hu j (by omega)) hu (by omega)
theorem later_l0 (s of : List Int) (hs : s.length ≤ 1000000) (ho : of.length ≤ 1000000) : ∀ (d j : Nat) (out : List Int), j + d = s.length → out.length ≤ j → Ev (fun k => mapmakerref40_later.l0 k s of out (j : Int)) (out ++ (s.drop j).filter (fun x => decide (x ∈ of)))
 | 0, j, out, h, _ => by
  have hj : j = s.length := by omega
  subst hj
  rw [List.drop_length]
  refine Ev.step1 fun k => ?_
  simp only [mapmakerref40_later.l0]
  rw [if_neg (by omega)]
  simp
 | d + 1, j, out, h, hol => by
  have hj : j < s.length := by omega
  have hh := mapmakerref05_Has.ev of s[j] (by omega)
  rw [List.drop_eq_getElem_cons hj]
  by_cases e : s[j] ∈ of
  ·have ih := later_l0 s of hs ho d (j + 1) (out ++ [s[j]]) (by omega) (by simp; omega)
   rw [List.filter_cons_of_pos (by simpa using e)]
   rw [List.append_assoc, List.singleton_append] at ih
   have h2 : Ev (fun k => (mapmakerref05_Has.f k of s[j]).bind fun t => if t = true then (if out.length < 17592186044416 then mapmakerref40_later.l0 k s of (out ++ [s[j]]) (wrap64 ((j : Int) + 1)) else none) else mapmakerref40_later.l0 k s of out (wrap64 ((j : Int) + 1))) (out ++ s[j] :: (s.drop (j + 1)).filter (fun x => decide (x ∈ of))) := by
    refine Ev.bind hh ?_
    refine Ev.congr (fun k => ?_) ih
    rw [decide_eq_true e, if_pos rfl, if_pos (by omega), wrap_succ (by omega)]
   refine Ev.step (fun k => ?_) h2
   simp only [mapmakerref40_later.l0]
   rw [if_pos (by omega), if_pos (by omega), rd_int s j hj]
  ·have ih := later_l0 s of hs ho d (j + 1) out (by omega) (by omega)
   rw [List.filter_cons_of_neg (by simpa using e)]
   have h2 : Ev (fun k => (mapmakerref05_Has.f k of s[j]).bind fun t => if t = true then (if out.length < 17592186044416 then mapmakerref40_later.l0 k s of (out ++ [s[j]]) (wrap64 ((j : Int) + 1)) else none) else mapmakerref40_later.l0 k s of out (wrap64 ((j : Int) + 1))) (out ++ (s.drop (j + 1)).filter (fun x => decide (x ∈ of))) := by
    refine Ev.bind hh ?_
    refine Ev.congr (fun k => ?_) ih
    rw [decide_eq_false e, if_neg (by decide), wrap_succ (by omega)]
   refine Ev.step (fun k => ?_) h2
   simp only [mapmakerref40_later.l0]
   rw [if_pos (by omega), if_pos (by omega), rd_int s j hj]
theorem mapmakerref40_later.ev (s of : List Int) (i : Nat) (hs : s.length ≤ 1000000) (ho : of.length ≤ 1000000) (hi : i < s.length) : Ev (fun k => mapmakerref40_later.f k s of (i : Int)) (laterS s of i) := by
 unfold mapmakerref40_later.f laterS
 rw [wrap_succ (by omega)]
 have := later_l0 s of hs ho (s.length - (i + 1)) (i + 1) [] (by omega) (by simp)
 simpa using this
theorem mapmakerref40_Check.ev (N : Int) (l : List S38) (L : List Int) (hl : l.length ≤ 1000000) (hL : L.length ≤ 1000000) : Ev (fun k => mapmakerref40_Check.f k N l L) (newErr N l L) := by
 unfold mapmakerref40_Check.f
 refine Ev.bind (mapmakerref37_Check.ev N l (by omega)) ?_
 by_cases h : chk N l = 0
 ·have h1 : newErr N l L = ordGo N L.length [] L := by unfold newErr; rw [if_neg (fun x => x h)]
  rw [h1]
  simp only [if_pos h]
  refine Ev.bind (mapmakerref39_Check.ev N L (by omega)) ?_
  exact Ev.now _
 ·have h1 : newErr N l L = chk N l := by unfold newErr; rw [if_pos h]
  rw [h1]
  simp only [if_neg h]
  exact Ev.now _

/-! ### Rows that are replaced -/
structure NearIs (w : World) (base B : Nat) (N : List (List Int)) : Prop where
 blk : ∃ cs : Array Value, w.heap[B]? = some (.cells cs 25 (0, 0)) ∧ ∀ i, i < N.length → ∃ v, cs[i]? = some v ∧ Kd.R (Kd.int .i64) 3 w base (fun _ => True) v (N.getD i [])
 lo : base ≤ B
theorem NearIs.below {w w1 : World} {base B : Nat} {N : List (List Int)} (h : NearIs w base B N) (hb : Below w.heap.size w w1) : NearIs w1 base B N := by
 obtain ⟨cs, h1, h2⟩ := h.blk
 refine ⟨⟨cs, (hb.block B (hblk_lt h1)).trans h1, fun i hi => ?_⟩, h.lo⟩
 obtain ⟨v, h3, h4⟩ := h2 i hi
 exact ⟨v, h3, Kd.R_below h4 hb⟩
theorem NearIs.grown {w w1 : World} {base B : Nat} {N : List (List Int)} (h : NearIs w base B N) {row : Option Nat} (hg : w.grownBy w1 row) (ht : ∀ k, row = some k → ∃ cells, w.heap[k]? = some (.cells cells 38 (0, 0))) : NearIs w1 base B N := by
 obtain ⟨cs, h1, h2⟩ := h.blk
 refine ⟨⟨cs, (hg.block B (hblk_lt h1) (fun e => ?_)).trans h1, fun i hi => ?_⟩, h.lo⟩
 ·obtain ⟨c2, h3⟩ := ht B e.symm
  rw [h1] at h3
  simp at h3
 ·obtain ⟨v, h3, h4⟩ := h2 i hi
  refine ⟨v, h3, Kd.R_move (Kd.R_bound h4) (fun k hk => hg.block k hk.2.2.1 (fun e => ?_)) |> fun x => Kd.R_mono x (fun _ _ => trivial)⟩
  obtain ⟨c2, h5⟩ := ht k e.symm
  obtain ⟨_, _, _, q, hq, c3, h6⟩ := hk
  rw [h5] at h6
  have hq2 : q = 3 := List.mem_singleton.1 (show q ∈ [3] from hq)
  subst hq2
  simp at h6
theorem NearIs.put {w : World} {base B : Nat} {N : List (List Int)} (h : NearIs w base B N) {i : Nat} {v : Value} {r : List Int} (hr : Kd.R (Kd.int .i64) 3 w base (fun _ => True) v r) : NearIs (w.setCell ⟨B, i, none⟩ v) base B (N.set i r) := by
 obtain ⟨cs, h1, h2⟩ := h.blk
 have hfar : ∀ (u : Value) (q : List Int), Kd.R (Kd.int .i64) 3 w base (fun _ => True) u q → Kd.R (Kd.int .i64) 3 (w.setCell ⟨B, i, none⟩ v) base (fun _ => True) u q := fun u q hq =>
  Kd.R_mono (Kd.R_far (Kd.R_types hq h1 (fun q hq => by
   have hq2 : q = 3 := List.mem_singleton.1 (show q ∈ [3] from hq)
   subst hq2
   decide)) (p := ⟨B, i, none⟩) (fun k hk => hk.2) v) (fun _ _ => trivial)
 refine ⟨⟨cs.setIfInBounds i v, by simp [World.setCell, Array.getElem?_modify, h1], fun j hj => ?_⟩, h.lo⟩
 rw [List.length_set] at hj
 obtain ⟨u, h3, h4⟩ := h2 j hj
 by_cases e : i = j
 ·subst e
  refine ⟨v, ?_, ?_⟩
  ·rw [Array.getElem?_setIfInBounds, if_pos rfl, if_pos (Array.getElem?_eq_some_iff.1 h3).1]
  ·have hget : (N.set i r).getD i [] = r := by simp [List.getElem?_set, hj]
   rw [hget]
   exact hfar v r hr
 ·refine ⟨u, ?_, ?_⟩
  ·rw [Array.getElem?_setIfInBounds, if_neg e]
   exact h3
  ·have hget : (N.set i r).getD j [] = N.getD j [] := by
    rw [List.getD_eq_getElem?_getD, List.getElem?_set, if_neg e, ← List.getD_eq_getElem?_getD]
   rw [hget]
   exact hfar u _ h4
theorem NearIs.at {w : World} {base B : Nat} {N : List (List Int)} (h : NearIs w base B N) {i : Nat} (hi : i < N.length) : ∃ A c, w.cell? ⟨B, i, none⟩ = some (.slice A (N.getD i []).length c) ∧ Kd.R (Kd.int .i64) 3 w base (fun _ => True) (.slice A (N.getD i []).length c) (N.getD i []) ∧ w.frozen? ⟨B, i, none⟩ = false := by
 obtain ⟨cs, h1, h2⟩ := h.blk
 obtain ⟨v, h3, h4⟩ := h2 i hi
 obtain ⟨A, c, rfl⟩ := Kd.R_slice h4
 exact ⟨A, c, (blk_cell h1 i).trans h3, h4, blk_frozen h1 i⟩
theorem near_of_S {w : World} {base : Nat} {A : Option Addr} {c : Nat} {N : List (List Int)} (h : Kd.S (Kd.slice 3 (Kd.int .i64)) 25 w base (fun _ => True) (.slice A N.length c) N) (hp : 0 < N.length) : ∃ B, A = some ⟨B, 0, none⟩ ∧ NearIs w base B N := by
 obtain ⟨g, cap, he, hb, hlt, cells, hcells⟩ := Kd.S_form h hp
 injection he with he1 _ he3
 subst he1 he3
 refine ⟨g, rfl, ⟨cells, hcells, fun i hi => ?_⟩, hb⟩
 obtain ⟨c, hcl, hM, hcc⟩ := Kd.S_get h [] (i : Int) (by omega) (by omega)
 obtain ⟨vx, rfl, hr⟩ := hM
 simp only [Int.toNat_natCast] at hr hcc
 have hc1 := hcc 0 _ rfl
 rw [show (Kd.slice 3 (Kd.int .i64)).sz = 1 from rfl, Nat.mul_one, Nat.add_zero, Addr.add_lit, Nat.zero_add, blk_cell hcells] at hc1
 exact ⟨vx, hc1, Kd.R_mono hr (fun _ _ => trivial)⟩
theorem row_grown {w w1 : World} {base : Nat} {v : Value} {r : List Int} (h : Kd.R (Kd.int .i64) 3 w base (fun _ => True) v r) {row : Option Nat} (hg : w.grownBy w1 row) (ht : ∀ k, row = some k → ∃ cells, w.heap[k]? = some (.cells cells 38 (0, 0))) : Kd.R (Kd.int .i64) 3 w1 base (fun _ => True) v r :=
 Kd.R_mono (Kd.R_move (Kd.R_bound h) (fun k hk => hg.block k hk.2.2.1 (fun e => by
  obtain ⟨c2, h5⟩ := ht k e.symm
  obtain ⟨_, _, _, q, hq, c3, h6⟩ := hk
  rw [h5] at h6
  have hq2 : q = 3 := List.mem_singleton.1 (show q ∈ [3] from hq)
  subst hq2
  simp at h6))) (fun _ _ => trivial)
theorem row_put {w : World} {base B : Nat} {N : List (List Int)} {u : Value} {q : List Int} (h : NearIs w base B N) (hq : Kd.R (Kd.int .i64) 3 w base (fun _ => True) u q) (i : Nat) (v : Value) : Kd.R (Kd.int .i64) 3 (w.setCell ⟨B, i, none⟩ v) base (fun _ => True) u q := by
 obtain ⟨cs, h1, h2⟩ := h.blk
 exact Kd.R_mono (Kd.R_far (Kd.R_types hq h1 (fun q hq => by
  have hq2 : q = 3 := List.mem_singleton.1 (show q ∈ [3] from hq)
  subst hq2
  decide)) (p := ⟨B, i, none⟩) (fun k hk => hk.2) v) (fun _ _ => trivial)
theorem out_put {w : World} {base B : Nat} {N : List (List Int)} {o : Value} {es : List S38} (h : NearIs w base B N) (ho : Kd.R k38 38 w base (fun _ => True) o es) (i : Nat) (v : Value) : Kd.R k38 38 (w.setCell ⟨B, i, none⟩ v) base (fun _ => True) o es := by
 obtain ⟨cs, h1, h2⟩ := h.blk
 exact Kd.R_mono (Kd.R_far (Kd.R_types ho h1 (fun q hq => by
  have hq2 : q = 38 := List.mem_singleton.1 (show q ∈ [38] from hq)
  subst hq2
  decide)) (p := ⟨B, i, none⟩) (fun k hk => hk.2) v) (fun _ _ => trivial)

set_option maxHeartbeats 6400000 in
set_option maxRecDepth 100000 in
theorem mapmakerref40_Edges.calls (a0_0 : Int) (A0_1 : Option Addr) (c0_1 : Nat) (l0_1 : List S38) (A1 : Option Addr) (c1 : Nat) (l1 : List Int) (r : List S38) (w : World) (hr0_1 : Kd.C k38 w A0_1 l0_1.length l0_1) (hc0_1 : l0_1.length ≤ c0_1)
  (hr1 : Kd.C (Kd.int .i64) w A1 l1.length l1) (hc1 : l1.length ≤ c1) (h : mapmakerref40_Edges.f a0_0 l0_1 l1 = some r) :
  Calls Try.prog 31 #[.agg #[.int .i64 a0_0, .slice A0_1 l0_1.length c0_1], .slice A1 l1.length c1] w fun e w' => ∃ v0_ : Value, e = .returned v0_ ∧ Kd.R k38 38 w' w.heap.size (fun _ => True) v0_ r ∧ Below w.heap.size w w' := by
 unfold mapmakerref40_Edges.f at h
 split at h
 case isFalse => cases h
 rename_i hcond
 obtain ⟨hal, hll, hN⟩ := hcond
 injection h with h
 subst h
 obtain ⟨kc, hkc⟩ := mapmakerref40_Check.ev a0_0 l0_1 l1 hal hll
 have HKC := Aside0.mk (hkc kc (Nat.le_refl _))
 have HG := Aside0.mk hr0_1
 have HL := Aside0.mk hr1
 have HL0 := Aside0.mk hr1
 have HGC := Aside0.mk hc0_1
 have HLC := Aside0.mk hc1
 clear hr0_1 hr1 hc0_1 hc1 hkc
 go_enter Try.func31, Try.ntmps31
 go_upto_region 2 with (fail)
 have HBK := Aside0.mk (heap_alloc_new w (Obj.cells #[.int .i64 a0_0, .slice A0_1 l0_1.length c0_1] 24))
 have HBE : Below w.heap.size w (w.alloc (Obj.cells #[.int .i64 a0_0, .slice A0_1 l0_1.length c0_1] 24)) := (Below.refl _ _).alloc (Nat.le_refl _) _
 have HG1 := Aside0.mk (Kd.C_below HG.out HBE)
 have HL1 := Aside0.mk (Kd.C_below HL.out HBE)
 have HB1 := Aside0.mk HBE
 generalize w.alloc (Obj.cells #[.int .i64 a0_0, .slice A0_1 l0_1.length c0_1] 24) = w1 at HBK HG1 HL1 HB1 ⊢
 clear HBE HG HL
 have hc0 := (blk_cell HBK.out 0).trans rfl
 have hc1 := (blk_cell HBK.out 1).trans rfl
 go_wp2_with (fail)
 refine (mapmakerref40_Check.calls kc a0_0 A0_1 c0_1 l0_1 A1 c1 l1 _ _ HG1.out HGC.out HL1.out HLC.out HKC.out).mono ?_
 rintro e w2 ⟨rfl, hb2⟩
 have HBK2 := Aside0.mk (blk_below HBK.out hb2)
 have HG2 := Aside0.mk (Kd.C_below HG1.out hb2)
 have HL2 := Aside0.mk (Kd.C_below HL1.out hb2)
 have HB2 := Aside0.mk (below_more HB1.out (Nat.le_refl _) hb2)
 clear hc0 hc1 hb2 HBK HG1 HL1 HB1 HKC
 by_cases hne : newErr a0_0 l0_1 l1 = 0
 ·have HRS : Aside0 (redgesS a0_0 l0_1 l1 = redges a0_0.toNat l0_1 l1) := ⟨by unfold redgesS; rw [if_pos hne]⟩
  have hchk : chk a0_0 l0_1 = 0 := by
   unfold newErr at hne
   split at hne
   ·contradiction
   ·rename_i hh; exact Classical.not_not.1 hh
  have hord : ordGo a0_0 l1.length [] l1 = 0 := by
   unfold newErr at hne
   rw [if_neg (fun h => h hchk)] at hne
   exact hne
  obtain ⟨hN0, hN1, _⟩ := chk_ok hchk
  obtain ⟨n, rfl⟩ := Int.eq_ofNat_of_zero_le hN0
  have hn : n ≤ 1000 := by omega
  have hIO := isOrd_of hN0 hord
  rw [Int.toNat_natCast] at hIO HRS
  have HIO := Aside0.mk hIO
  have hln : l1.length = n := hIO.len
  have HLN := Aside0.mk hln
  obtain ⟨kn, hkn⟩ := mapmakerref37_Neighbours.ev (n : Int) l0_1 (by omega)
  have HKN : Aside0 (mapmakerref37_Neighbours.f kn (n : Int) l0_1 = some (nbRows n l0_1)) := ⟨(hkn kn (Nat.le_refl _)).trans (by
   unfold neighS
   rw [if_pos hchk, Int.toNat_natCast])⟩
  have HNG := Aside0.mk (NGood.start hchk)
  have HST : Aside0 (redges n l0_1 l1 = (e1upto l1 ([], nbRows n l0_1) n).1) := ⟨by unfold redges; rw [hln]⟩
  clear hkn hIO hord hchk hN0 hN1 hN hln
  rw [hne]
  have hc0 := (blk_cell HBK2.out 0).trans rfl
  have hc1 := (blk_cell HBK2.out 1).trans rfl
  generalize nbRows n l0_1 = N0 at HKN HNG HST
  go_wp2_with (fail)
  refine (mapmakerref37_Neighbours.calls kn (n : Int) A0_1 c0_1 l0_1 N0 _ HG2.out HGC.out HKN.out).mono ?_
  rintro e w3 ⟨v0, rfl, hns, hb3⟩
  obtain ⟨An, cn, rfl⟩ := Kd.S_slice hns
  have hlenN := HNG.out.len
  have HB3 := Aside0.mk (below_more HB2.out (Nat.le_refl _) hb3)
  have HL3 := Aside0.mk (Kd.C_below HL2.out hb3)
  have hnb : 0 < n → ∃ B, An = some ⟨B, 0, none⟩ := fun hp => by
   obtain ⟨B, hB, _⟩ := near_of_S hns (by omega)
   exact ⟨B, hB⟩
  have HNR : Aside0 (∀ B, An = some ⟨B, 0, none⟩ → 0 < n → NearIs w3 w.heap.size B N0) := ⟨fun B hB hp => by
   obtain ⟨B', hB', h2⟩ := near_of_S hns (by omega)
   rw [hB] at hB'
   injection hB' with hB'
   injection hB' with hB' _
   subst hB'
   exact ⟨h2.blk.imp (fun cs hcs => ⟨hcs.1, fun i hi => (hcs.2 i hi).imp (fun v hv => ⟨hv.1, Kd.R_lower hv.2 HB2.out.size⟩)⟩), Nat.le_trans HB2.out.size h2.lo⟩⟩
  clear hns hb3 hc0 hc1 HBK2 HG2 HL2 HB2 HKN hne HGC
  have hcap : 0 ≤ cn := Nat.zero_le _
  rw [hlenN]
  obtain ⟨st, HSTT⟩ : ∃ st, Aside0 (st = (([] : List S38), N0)) := ⟨_, ⟨rfl⟩⟩
  rw [← HSTT.out] at HST
  go_wp2_with (fail)
  go_loopw [5, 7] (fun o i wr => ∃ q : Nat, i = .int .i64 (q : Int) ∧ q ≤ n ∧ Aside0 (Below w.heap.size w wr) ∧ Aside0 (Kd.R k38 38 wr w.heap.size (fun _ => True) o (e1upto l1 st q).1) ∧ Aside0 (∀ B, An = some ⟨B, 0, none⟩ → 0 < n → NearIs wr w.heap.size B (e1upto l1 st q).2) ∧ Aside0 (NGood n (e1upto l1 st q).2) ∧ Aside0 ((e1upto l1 st q).1.length ≤ q * n)) (fun _ i _ => n - (intOf i).toNat)
  case atStart =>
   refine ⟨0, rfl, Nat.zero_le _, HB3, ⟨?_⟩, ⟨fun B hB hp => ?_⟩, ⟨?_⟩, ⟨?_⟩⟩
   ·show Kd.R k38 38 _ _ _ _ st.1
    rw [HSTT.out]
    exact Kd.R_nil _ _ _ _ _
   ·show NearIs _ _ _ st.2
    rw [HSTT.out]
    exact HNR.out B hB hp
   ·show NGood n st.2
    rw [HSTT.out]
    exact HNG.out
   ·show st.1.length ≤ 0 * n
    rw [HSTT.out]
    exact Nat.zero_le _
  case round =>
   clear HB3 HNR HNG HSTT
   obtain ⟨q, rfl, hq, HB, HO, HNR, HNG, HLEN⟩ := hrel
   obtain ⟨Ao, co, rfl⟩ := Kd.R_slice HO.out
   by_cases hqn : q < n
   ·obtain ⟨B, hBe⟩ := hnb (by omega)
    subst hBe
    have HNB := Aside0.mk (HNR.out B rfl (by omega))
    have hql : q < l1.length := by rw [HLN.out]; exact hqn
    rcases cells_of_C (Kd.C_below HL0.out HB.out) with ⟨h0, _⟩ | ⟨_, bl, ol, hAl, hce⟩
    ·omega
    subst hAl
    have hcl := hce q hql
    have hv0 := HIO.out.rng _ (mem_getD hql)
    obtain ⟨v, hv⟩ := Int.eq_ofNat_of_zero_le hv0.1
    rw [hv] at hcl hv0
    have hvn : v < n := by omega
    have HSU : Aside0 (e1upto l1 st (q + 1) = e2upto (v : Int) (laterS l1 ((e1upto l1 st q).2.getD v []) q) (e1upto l1 st q) (laterS l1 ((e1upto l1 st q).2.getD v []) q).length) := ⟨by
     show e1step l1 (e1upto l1 st q) q = _
     unfold e1step
     rw [hv, Int.toNat_natCast]⟩
    clear hce HNR hv hv0
    generalize e1upto l1 st q = s1 at HO HNB HNG HLEN HSU
    obtain ⟨Ar, cr, hcr, hRr, _⟩ := HNB.out.at (i := v) (by rw [HNG.out.len]; omega)
    have hrl := HNG.out.short v
    have hRc := Kd.R_reads' hRr
    obtain ⟨row, HROW⟩ : ∃ row, Aside0 (s1.2.getD v [] = row) := ⟨_, ⟨rfl⟩⟩
    rw [HROW.out] at hcr hrl hRc HSU
    have HRC := Aside0.mk hRc.2.2
    have hcrl := hRc.2.1
    obtain ⟨kl, hkl⟩ := mapmakerref40_later.ev l1 row q hll (by omega) hql
    have HKL := Aside0.mk (hkl kl (Nat.le_refl _))
    have HUR : Aside0 (∀ x ∈ laterS l1 row q, 0 ≤ x ∧ x < (n : Int)) := ⟨fun x hx => HIO.out.rng x (List.mem_of_mem_drop (List.mem_filter.1 hx).1)⟩
    have hul : (laterS l1 row q).length ≤ n := by
     have h1 := List.length_filter_le (fun x => decide (x ∈ row)) (l1.drop (q + 1))
     rw [List.length_drop, HLN.out] at h1
     unfold laterS
     omega
    have HL4 := Aside0.mk (Kd.C_below HL0.out HB.out)
    clear hRr hRc hkl HROW
    generalize laterS l1 row q = up at HSU HKL HUR hul
    go_wp2_with (fail)
    refine (mapmakerref40_later.calls kl (some ⟨bl, ol, none⟩) c1 l1 Ar cr row (q : Int) up _ HL4.out HLC.out HRC.out hcrl HKL.out).mono ?_
    rintro e w5 ⟨v5, rfl, hup, hb5⟩
    obtain ⟨Au, cu, rfl⟩ := Kd.R_slice hup
    have HUP := Aside0.mk (Kd.R_lower hup HB.out.size)
    have HO5 := Aside0.mk (Kd.R_below HO.out hb5)
    have HN5 := Aside0.mk (HNB.out.below hb5)
    have HB5 := Aside0.mk (below_more HB.out (Nat.le_refl _) hb5)
    clear hup hb5 hcl hcr HO HNB HB HL4 HRC HKL
    obtain ⟨wo, hwo⟩ : ∃ q, q = wr := ⟨_, rfl⟩
    subst hwo
    have hqn2 : q * n ≤ 1000 * 1000 := Nat.mul_le_mul (by omega) hn
    go_wp2_with (fail)
    go_loopw [5, 10] (fun o i wr => ∃ k : Nat, i = .int .i64 (k : Int) ∧ k ≤ up.length ∧ Aside0 (Below w.heap.size w wr) ∧ Aside0 (Kd.R k38 38 wr w.heap.size (fun _ => True) o (e2upto (v : Int) up s1 k).1) ∧ Aside0 (NearIs wr w.heap.size B (e2upto (v : Int) up s1 k).2) ∧ Aside0 (NGood n (e2upto (v : Int) up s1 k).2) ∧ Aside0 ((e2upto (v : Int) up s1 k).1.length ≤ q * n + k) ∧ Aside0 (Kd.R (Kd.int .i64) 3 wr w.heap.size (fun _ => True) (.slice Au up.length cu) up)) (fun _ i _ => up.length - (intOf i).toNat)
    case atStart => exact ⟨0, rfl, Nat.zero_le _, HB5, HO5, HN5, HNG, HLEN, HUP⟩
    case round =>
     clear HB5 HO5 HN5 HNG HLEN HUP
     obtain ⟨k, rfl, hk, HB, HO, HNB, HNG, HLEN, HUP⟩ := hrel
     obtain ⟨Ao, co, rfl⟩ := Kd.R_slice HO.out
     by_cases hku : k < up.length
     ·obtain ⟨bu, ou, cu2, hue, hck⟩ := own_cell HUP.out (i := k) hku
      injection hue with e1 _ e2
      subst e1 e2
      have hx0 := HUR.out _ (mem_getD hku)
      obtain ⟨x, hx⟩ := Int.eq_ofNat_of_zero_le hx0.1
      rw [hx] at hck hx0
      have hxn : x < n := by omega
      have HS2 : Aside0 (e2upto (v : Int) up s1 (k + 1) = ((e2upto (v : Int) up s1 k).1 ++ [⟨(v : Int), (x : Int)⟩], e3upto up k (e2upto (v : Int) up s1 k).2 up.length)) := ⟨by
       show ((e2upto (v : Int) up s1 k).1 ++ [⟨(v : Int), up.getD k 0⟩], _) = _
       rw [hx]⟩
      have HX := Aside0.mk hx
      clear hx hx0
      generalize e2upto (v : Int) up s1 k = s2 at HO HNB HNG HLEN HS2 ⊢
      have hol : s2.1.length ≤ 1001000 := by have := HLEN.out; omega
      go_upto_region 14 with (
       refine Kd.R_append k38 (w0 := w) w.heap.size (by rfl) (.tmp 41) (.tmp 48) 22 38 (.agg #[(.int .i64 0), (.int .i64 0)]) 16 rfl Try.underlying22 info38 rfl (by decide) (by decide) (.slice Ao s2.1.length co) s2.1 ⟨(v : Int), (x : Int)⟩ [.int .i64 (v : Int), .int .i64 (x : Int)] (fun _ => True) (fun _ => False) rfl rfl ?aP (fun _ hk => hk.elim) ?aF ?aO ?aB ?aS ?aL ?_
       (case aP => exact k38_mkM _ _ _ _)
       (case aF => exact (fun _ _ => trivial))
       (case aO => exact HO.out)
       (case aB => exact HB.out)
       (case aS => exact HB.out.size)
       (case aL => omega)
       intro v9 w9 ho hb hg hat
       have HO9 := Aside0.mk ho
       have HB9 := Aside0.mk hb
       have HN9 := Aside0.mk (HNB.out.grown hg (Kd.R_typed HO.out))
       have HU9 := Aside0.mk (row_grown HUP.out hg (Kd.R_typed HO.out))
       obtain ⟨A9, c9, rfl⟩ := Kd.R_slice ho
       clear ho hb hg hat hck HO HB HNB HUP)
      have hol9 : (s2.1 ++ [(⟨(v : Int), (x : Int)⟩ : S38)]).length ≤ q * n + (k + 1) := by have := HLEN.out; simp; omega
      have HOL9 := Aside0.mk hol9
      have HEL : Aside0 ((s2.1 ++ [(⟨(v : Int), (x : Int)⟩ : S38)]).length = s2.1.length + 1) := ⟨by simp⟩
      clear hol9 hol
      generalize s2.1 ++ [(⟨(v : Int), (x : Int)⟩ : S38)] = es9 at HO9 HS2 HOL9 HEL ⊢
      obtain ⟨wo2, hwo2⟩ : ∃ q, q = wr := ⟨_, rfl⟩
      subst hwo2
      go_wp2_with (fail)
      go_loopw [11] (fun i wr => ∃ j : Nat, i = .int .i64 (j : Int) ∧ j ≤ up.length ∧ Aside0 (Below w.heap.size w wr) ∧ Aside0 (Kd.R k38 38 wr w.heap.size (fun _ => True) (.slice A9 es9.length c9) es9) ∧ Aside0 (NearIs wr w.heap.size B (e3upto up k s2.2 j)) ∧ Aside0 (NGood n (e3upto up k s2.2 j)) ∧ Aside0 (Kd.R (Kd.int .i64) 3 wr w.heap.size (fun _ => True) (.slice (some ⟨bu, ou, none⟩) up.length cu) up)) (fun i _ => up.length - (intOf i).toNat)
      case atStart => exact ⟨0, rfl, Nat.zero_le _, HB9, HO9, HN9, HNG, HU9⟩
      case round =>
       clear HB9 HO9 HN9 HNG HU9
       obtain ⟨j, rfl, hj, HB, HO, HNB, HNG, HUP⟩ := hrel
       by_cases hju : j < up.length
       ·have HS3 : Aside0 (e3upto up k s2.2 (j + 1) = if j ≠ k then (e3upto up k s2.2 j).set x (ins (up.getD j 0) ((e3upto up k s2.2 j).getD x [])) else e3upto up k s2.2 j) := ⟨by
         show e3step up k _ j = _
         unfold e3step
         rw [HX.out, Int.toNat_natCast]⟩
        by_cases hjk : j = k
        ·subst hjk
         rw [if_neg (fun h => h rfl)] at HS3
         go_wp2
         go_roundw
         case rel => exact ⟨j + 1, by go_num, by omega, HB, HO, by rw [HS3.out]; exact HNB, by rw [HS3.out]; exact HNG, HUP⟩
         case measure => simp [intOf]; omega
        ·rw [if_pos hjk] at HS3
         have HGS : Aside0 (NGood n (e3upto up k s2.2 (j + 1))) := ⟨by
          have := e3step_good HNG.out HUR.out (k := k) (j := j) hju
          exact this⟩
         obtain ⟨bu2, ou2, cu2, hue, hcj⟩ := own_cell HUP.out (i := j) hju
         injection hue with e1 _ e2
         injection e1 with e1
         injection e1 with e1 e3 _
         subst e1 e2 e3
         obtain ⟨bu2, ou2, cu2, hue, hck⟩ := own_cell HUP.out (i := k) hku
         injection hue with e1 _ e2
         injection e1 with e1
         injection e1 with e1 e3 _
         subst e1 e2 e3
         have hy0 := HUR.out _ (mem_getD hju)
         obtain ⟨y, hy⟩ := Int.eq_ofNat_of_zero_le hy0.1
         rw [hy] at hcj hy0 HS3
         rw [HX.out] at hck
         obtain ⟨Ax, cx, hcn, hRx, _⟩ := HNB.out.at (i := x) (by rw [HNG.out.len]; omega)
         have hinc := HNG.out.inc x
         have hsh := HNG.out.short x
         have HRX := Aside0.mk hRx
         clear hRx hy hy0
         have hxi : (x : Int) < (n : Int) := by omega
         generalize e3upto up k s2.2 j = N3 at HNB HS3 HNG HRX hcn hinc hsh ⊢
         obtain ⟨rx, HRXE⟩ : ∃ rx, Aside0 (N3.getD x [] = rx) := ⟨_, ⟨rfl⟩⟩
         rw [HRXE.out] at HRX hcn hinc hsh HS3
         clear HNG
         have hjk2 : ¬ (j : Int) = (k : Int) := by omega
         go_upto_region 18 with (fail)
         refine s_ (fun w' => w'.cell? ⟨bu, ou + k, none⟩ = some (.int .i64 (x : Int)) ∧ w'.cell? ⟨B, x, none⟩ = some (.slice Ax rx.length cx) ∧ w'.cell? ⟨bu, ou + j, none⟩ = some (.int .i64 (y : Int))) [18] ⟨hck, hcn, hcj⟩ (fun hHeld => ?_)
         have HRXD := Aside0.mk (Kd.R_drew HRX.out)
         have HBD := Aside0.mk (below_drew HB.out)
         have HND := Aside0.mk (HNB.out.below (below_drew (Below.refl _ _)))
         have HOD := Aside0.mk (Kd.R_drew HO.out)
         have HUD := Aside0.mk (Kd.R_drew HUP.out)
         clear HRX HB HNB HO HUP hck hcn hcj
         generalize wr.drew = we at HRXD HBD HND HOD HUD hHeld ⊢
         refine p_ 0 59 ?_
         refine p_ 1 60 ?_
         refine p_ 2 61 ?_
         refine p_ 3 62 ?_
         refine t3_ 4 63 hHeld ?_
         refine p_ 5 64 ?_
         refine p_ 6 65 ?_
         refine p_ 7 66 ?_
         refine p_ 8 67 ?_
         refine t3_ 9 68 hHeld ?_
         refine p_ 10 69 ?_
         refine t3_ 11 70 hHeld ?_
         refine p_ 12 71 ?_
         refine p_ 13 72 ?_
         refine p_ 14 73 ?_
         refine t3_ 15 74 hHeld ?_
         refine o_ 16 75 (fun K hK => ?_)
         refine goes_ Try.func57 (by kernel_rfl) rfl #[.slice Ax rx.length cx, .int .i64 (y : Int)] (by rfl) rfl rfl byL ?_
         refine (With_read (y : Int) HRXD.out hinc (by omega) HBD.out.size).mono ?_
         rintro e w6 ⟨v6, rfl, hr6, hb6⟩
         obtain ⟨A6, c6, rfl⟩ := Kd.R_slice hr6
         refine ⟨_, rfl, ?_⟩
         refine hK.out _ _ ⟨pw_cell_below hb6 hHeld.1, pw_cell_below hb6 hHeld.2.1, pw_cell_below hb6 hHeld.2.2⟩ (fun hHeld => ?_)
         have HR6 := Aside0.mk hr6
         have HN6 := Aside0.mk (HND.out.below hb6)
         have HO6 := Aside0.mk (Kd.R_below HOD.out hb6)
         have HU6 := Aside0.mk (Kd.R_below HUD.out hb6)
         have HB6 := Aside0.mk (below_more HBD.out (Nat.le_refl _) hb6)
         clear hr6 hb6 HRXD HBD HND HOD HUD hK K
         refine n_ 75 ?_
         refine p_ 17 76 ?_
         have hSL := hHeld.2.1
         have hfz : w6.frozen? ⟨B, x, none⟩ = false := by obtain ⟨cs, h1, _⟩ := HN6.out.blk; exact blk_frozen h1 x
         clear hHeld
         refine l_ 18 (fun K hK => ?_)
         refine skip_ (w1 := ?_) (by rfl) rfl ?_ ?_
         rotate_left; (·go_simp; rfl)
         refine hK.out _ _ ?_
         clear hK K hSL hfz
         refine d_ ?_
         have HN7 := Aside0.mk (HN6.out.put (i := x) HR6.out)
         have HO7 := Aside0.mk (out_put HN6.out HO6.out x (.slice A6 (ins (y : Int) rx).length c6))
         have HU7 := Aside0.mk (row_put HN6.out HU6.out x (.slice A6 (ins (y : Int) rx).length c6))
         have HB7 := Aside0.mk (hputB HB6.out ⟨B, x, none⟩ (.slice A6 (ins (y : Int) rx).length c6) HN6.out.lo)
         clear HN6 HO6 HU6 HB6 HR6
         generalize w6.setCell ⟨B, x, none⟩ (.slice A6 (ins (y : Int) rx).length c6) = w7 at HN7 HO7 HU7 HB7 ⊢
         go_wp2
         go_roundw
         case rel => exact ⟨j + 1, by go_num, by omega, HB7, HO7, by rw [HS3.out]; exact HN7, HGS, HU7⟩
         case measure => simp [intOf]; omega
       ·have hje : j = up.length := by omega
        rw [hje] at HNB HNG
        go_wp2
        go_roundw
        case rel => exact ⟨k + 1, by go_num, by omega, HB, ⟨by have hh := HO.out; rw [HEL.out] at hh; rw [HS2.out]; exact hh⟩, by rw [HS2.out]; exact HNB, by rw [HS2.out]; exact HNG, by rw [HS2.out]; exact HOL9, HUP⟩
        case measure => simp [intOf]; omega
     ·have hke : k = up.length := by omega
      rw [hke, ← HSU.out] at HO HNB HNG HLEN
      have HLE2 : Aside0 ((e1upto l1 st (q + 1)).1.length ≤ (q + 1) * n) := ⟨by rw [Nat.add_mul]; have := HLEN.out; omega⟩
      rw [hke, ← HSU.out]
      obtain ⟨s9, HS9⟩ : ∃ s9, Aside0 (e1upto l1 st (q + 1) = s9) := ⟨_, ⟨rfl⟩⟩
      rw [HS9.out] at HO HNB HNG HLE2
      rw [HS9.out]
      go_wp2
      go_roundw
      case rel => exact ⟨q + 1, by go_num, by omega, HB, by rw [HS9.out]; exact HO, ⟨fun B2 hB2 _ => by injection hB2 with hB2; injection hB2 with hB2 _; subst hB2; rw [HS9.out]; exact HNB.out⟩, by rw [HS9.out]; exact HNG, by rw [HS9.out]; exact HLE2⟩
      case measure => simp [intOf]; omega
   ·have hqe : q = n := by omega
    subst hqe
    have hql : ¬ q < l1.length := by rw [HLN.out]; exact hqn
    go_wp2
    go_ret
    exact ⟨_, rfl, by rw [HRS.out, HST.out]; exact HO.out, HB.out⟩
 ·have HRS : Aside0 (redgesS a0_0 l0_1 l1 = []) := ⟨by unfold redgesS; rw [if_neg hne]⟩
  generalize newErr a0_0 l0_1 l1 = oe at hne ⊢
  go_wp2
  go_ret
  exact ⟨_, rfl, by rw [HRS.out]; exact Kd.R_nil _ _ _ _ _, HB2.out⟩
end Go.Proofs.Ytcfeehaoeaoegaa.Print
