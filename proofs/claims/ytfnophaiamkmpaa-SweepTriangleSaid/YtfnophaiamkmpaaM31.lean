/- Several texts of this claim in one: HSwG, HSFt, HSWn. -/
import Derived.Test.YtfnophaiamkmpaaM30
namespace Go.Proofs.Ytfnophaiamkmpaa.Print
open Go.RowKit Go.Proofs.YtfnophaiamkmpaaW.PrintWords Go.Proofs.YtfnophaiamkmpaaW.PrintLast Go.Proofs.YtfnophaiamkmpaaW.PrintMore
set_option linter.unusedVariables false
set_option linter.unusedSimpArgs false
theorem st_func (P : Program) (w : World) (a : Addr) (m : Mode) (fn : Fn) (first captured : Array Value) : (store a (.func fn first captured) m).run P w = stored P w a (.func fn first captured) m := run_store P w a _ m rfl
attribute [local go_sem] st_func
theorem Hk.upl_lt {n : Nat} {arcs : List S58} {L ws : List Int} (h : Hk n arcs L) (b : Bool) (s : Int) : ∀ q ∈ upl n arcs L ws b s, q.f0 < (n : Int) := fun q hq => by
 cases hv : hasV n s with
 | false => rw [upl_no hv] at hq; cases hq
 | true =>
  obtain ⟨v, hv1, rfl⟩ := hasV_iff.1 hv
  obtain ⟨x, hx, _, hs⟩ := at_rank h.ord hv1
  rw [upl_at h hx hs, List.mem_map] at hq
  obtain ⟨⟨u, c⟩, hp, rfl⟩ := hq
  have ha := h.climbF_ok (ws := ws) (b := b) hx
  obtain ⟨j, h1, h2⟩ := h.path_on hx (ha.att u c ((ha.mem u c).1 hp))
  obtain ⟨y, hy, _, hy2⟩ := h.cur hx j (by rw [h1]; exact h2)
  have := ord_vx h.ord hy
  show u < _
  omega
theorem swE_rng {n : Nat} {T : Int → Nat} {Wt : Int → Int} {v : Nat} {C : Nat → Int} {e : Int} (hw : 0 ≤ Wt e) (ht : T e < n) (h : ∀ a, a < n → 0 ≤ C a ∧ C a ≤ mInf) : ∀ a, a < n → 0 ≤ swE T Wt v C e a ∧ swE T Wt v C e a ≤ mInf := fun a ha => by
 unfold swE
 split
 ·unfold fset
  split
  ·rename_i hv
   subst hv
   have h1 := h a ha
   have h2 := h _ ht
   omega
  ·exact h a ha
 ·exact h a ha
theorem Hk.rng_all {n : Nat} {arcs : List S58} {L ws : List Int} {b : Bool} {x k : Nat} {C : Nat → Int} (h : Hk n arcs L) (hI : SInv n arcs L ws b x C k) : ∀ a, a < n → 0 ≤ C a ∧ C a ≤ mInf := fun a ha => by
 obtain ⟨y, hy, _, hye⟩ := at_rank h.ord ha
 have h1 := hI.rng y hy
 unfold vtx at h1
 rw [hye, Int.toNat_natCast] at h1
 exact h1
theorem query_Upward.upr {w : World} {q p n : Nat} {arcs : List S58} {L ws : List Int} (hk : Hk n arcs L) (hn : n ≤ 20) (hM : MetH w q p n arcs L ws) (hwl : ws.length = arcs.length) (hwr : ∀ i, i < ws.length → ws.getD i 0 ≤ 1073741824) (s : Int) (b : Bool) :
  Calls Try.prog 22 #[.pointer (some ⟨q, 0, none⟩), .int .i64 s, .bool b] w fun e w' => Below w.heap.size w w' ∧ ∃ v, e = .returned v ∧ Kd.R k50 50 w' w.heap.size (fun _ => True) v (Print.upl n arcs L ws b s) := by
 refine (query_Upward.calls hk hn hM hwl hwr s b).mono ?_
 rintro e w' ⟨hb, (⟨hv, rfl⟩ | ⟨x, v, hx, hs, rfl, hr⟩)⟩
 ·rw [upl_no hv]
  exact ⟨hb, _, rfl, Kd.R_nil _ _ _ _ _⟩
 ·rw [upl_at hk hx hs]
  exact ⟨hb, v, rfl, hr⟩
set_option maxHeartbeats 1600000 in
set_option maxRecDepth 100000 in
theorem sweep_all.nil {w : World} (s : Int) (b : Bool) : Calls Try.prog 72 #[.pointer none, .int .i64 s, .bool b] w fun e w' => e = .returned (.tuple #[.slice none 0 0, .int .i64 1]) ∧ Below w.heap.size w w' := by
 go_enter Try.func72, Try.ntmps72
 go_wp2
 go_ret2
 exact ⟨rfl, Below.refl _ _⟩
set_option maxHeartbeats 6400000 in
set_option maxRecDepth 100000 in
theorem sweep_all.calls {w : World} {q p n : Nat} {arcs : List S58} {L ws : List Int} (hk : Hk n arcs L) (hn : n ≤ 20) (hM : MetH w q p n arcs L ws) (hwl : ws.length = arcs.length) (hwr : ∀ i, i < ws.length → ws.getD i 0 ≤ 1073741824) (s : Int) (b : Bool) :
  Calls Try.prog 72 #[.pointer (some ⟨q, 0, none⟩), .int .i64 s, .bool b] w fun e w' => Below w.heap.size w w' ∧ ((hasV n s = false ∧ e = .returned (.tuple #[.slice none 0 0, .int .i64 2])) ∨
   ∃ (x : Nat) (A : Option Addr) (c : Nat), x < n ∧ L.getD x 0 = s ∧ e = .returned (.tuple #[.slice A n c, .int .i64 0]) ∧ n ≤ c ∧ Kd.C (Kd.int .i64) w' A n (swAll n arcs L ws b x)) := by
 have HM := Aside0.mk hM
 have HK := Aside0.mk hk
 have HWL := Aside0.mk hwl
 have HWR := Aside0.mk hwr
 have HLL := Aside0.mk hk.ord.len
 have HC1 := Aside0.mk (hk.chk1 s)
 clear hk hM hwl hwr
 go_enter Try.func72, Try.ntmps72
 go_wp2_with (fail)
 refine (Metric_Hier.calls (HM.out.reads HK.out (by omega))).mono ?_
 rintro e w0 ⟨rfl, rfl⟩
 have HOC := Aside0.mk (Hier_Order.calls HM.out.hier (by have := HLL.out; omega))
 go_wp2_with (fail)
 refine HOC.out.mono ?_
 rintro e w1 ⟨v1, rfl, hr1, hb1⟩
 obtain ⟨oA, oc, rfl, hoc, hoC⟩ := Kd.R_reads hr1
 have HO := Aside0.mk hoC
 rw [HLL.out] at hoc ⊢
 have HB := Aside0.mk hb1
 replace HM := Aside0.mk (HM.out.below hb1)
 clear hr1 hoC HOC hb1
 rcases HC1.out with ⟨_, h3⟩ | ⟨_, x, hx, hxs⟩
 ·have H3 := Aside0.mk h3
  have hns : s < 0 ∨ (n : Int) ≤ s := by
   unfold hasV at h3
   simp at h3
   omega
  clear h3
  by_cases h0 : s < 0
  ·go_wp2_with (fail)
   go_ret2
   exact ⟨HB.out, .inl ⟨H3.out, rfl⟩⟩
  ·have h1 : (n : Int) ≤ s := by omega
   go_wp2_with (fail)
   go_ret2
   exact ⟨HB.out, .inl ⟨H3.out, rfl⟩⟩
 ·obtain ⟨hv, hve⟩ := HK.out.vtx_lt hx
  rw [hve] at hxs
  subst hxs
  obtain ⟨sv, HSV⟩ : ∃ sv, Aside0 (vtx L x = sv) := ⟨_, ⟨rfl⟩⟩
  rw [HSV.out] at hv hve ⊢
  have HXS := Aside0.mk hve
  clear hve HC1
  have hmk := run_row n (by omega)
  go_wp2_with (fail)
  have hba : Below w1.heap.size w1 ((w1.alloc (Obj.cells (rowC n 0) 3)).alloc (Obj.cells #[.slice (some ⟨w1.heap.size, 0, none⟩) n n] 25)) := ((Below.refl _ _).alloc (Nat.le_refl _) _).alloc (by simp) _
  have HB1 := Aside0.mk hba
  have HR1 : Aside0 (((w1.alloc (Obj.cells (rowC n 0) 3)).alloc (Obj.cells #[.slice (some ⟨w1.heap.size, 0, none⟩) n n] 25)).heap[w1.heap.size]? = some (.cells (rowC n 0) 3 (0, 0))) := ⟨(((Below.refl _ (w1.alloc (Obj.cells (rowC n 0) 3))).alloc (Nat.le_refl _) _).block _ (by simp)).trans (heap_alloc_new w1 _)⟩
  have HX1 : Aside0 (((w1.alloc (Obj.cells (rowC n 0) 3)).alloc (Obj.cells #[.slice (some ⟨w1.heap.size, 0, none⟩) n n] 25)).heap[w1.heap.size + 1]? = some (.cells #[.slice (some ⟨w1.heap.size, 0, none⟩) n n] 25 (0, 0))) := ⟨by
   have h1 := heap_alloc_new (w1.alloc (Obj.cells (rowC n 0) 3)) (Obj.cells #[.slice (some ⟨w1.heap.size, 0, none⟩) n n] 25)
   rw [show (w1.alloc (Obj.cells (rowC n 0) 3)).heap.size = w1.heap.size + 1 from World.size_alloc ..] at h1
   exact h1⟩
  clear hba hmk
  generalize (w1.alloc (Obj.cells (rowC n 0) 3)).alloc (Obj.cells #[.slice (some ⟨w1.heap.size, 0, none⟩) n n] 25) = w2 at HB1 HR1 HX1 ⊢
  go_loopw [40] (fun i wr => ∃ v : Nat, i = .int .i64 (v : Int) ∧ v ≤ n ∧ Aside0 (wr.heap[w1.heap.size]? = some (.cells (rowC n v) 3 (0, 0))) ∧ Aside0 (wr.heap[w1.heap.size + 1]? = some (.cells #[.slice (some ⟨w1.heap.size, 0, none⟩) n n] 25 (0, 0))) ∧ Aside0 (Below w1.heap.size w1 wr)) (fun i _ => n - (intOf i).toNat)
  case atStart => exact ⟨0, rfl, Nat.zero_le _, HR1, HX1, HB1⟩
  case round => as_aux_lemma =>
   clear HR1 HB1 HX1
   obtain ⟨v, rfl, hvn, HR, HX, HBq⟩ := hrel
   by_cases hvl : v < n
   ·have hcv := (blk_cell HR.out v).trans (rowC_get hvl)
    have hfv : wr.frozen? ⟨w1.heap.size, v, none⟩ = false := fz_of_blk HR.out
    have hx := (blk_cell HX.out 0).trans rfl
    rw [if_neg (Nat.lt_irrefl v)] at hcv
    go_wp2_with (fail)
    go_roundw
    case rel => exact ⟨v + 1, by go_num, by omega, ⟨by rw [sb_put HR.out, rowC_set]⟩, ⟨(Below.heap_setCell _ _ _ _ (by show w1.heap.size + 1 ≠ w1.heap.size; omega)).trans HX.out⟩, ⟨below_put HBq.out _ _ (Nat.le_refl _)⟩⟩
    case measure => simp [intOf]; omega
   ·have hvn2 : v = n := by omega
    rw [hvn2, rowC_col] at HR
    have HMr := Aside0.mk (HM.out.below HBq.out)
    have HUP := Aside0.mk (query_Upward.upr HK.out hn HMr.out HWL.out HWR.out (sv : Int) b)
    have HLOW := Aside0.mk (HK.out.upl_low HWL.out HWR.out hn b (sv : Int))
    have HLT := Aside0.mk (HK.out.upl_lt (ws := ws) b (sv : Int))
    have hul := upl_len HK.out HWL.out HWR.out hn b (sv : Int)
    have HUE := Aside0.mk (upl_at (ws := ws) HK.out (b := b) hx HXS.out)
    obtain ⟨ul, HUL⟩ : ∃ ul, Aside0 (upl n arcs L ws b (sv : Int) = ul) := ⟨_, ⟨rfl⟩⟩
    rw [HUL.out] at HUP HLOW HLT hul HUE
    go_wp2_with (fail)
    refine HUP.out.mono ?_
    rintro e w3 ⟨hb3, uv, rfl, huR⟩
    obtain ⟨uA, uc, rfl⟩ := Kd.R_slice huR
    obtain ⟨m, HME⟩ : ∃ m, Aside0 (ul.length = m) := ⟨_, ⟨rfl⟩⟩
    rw [HME.out] at hul ⊢
    have hltX := sb_lt HX.out
    have HUS : Aside0 (∀ W', Bel (fun k => k = w1.heap.size) w3 W' → Kd.C k50 W' uA ul.length ul) := ⟨fun W' hW => (Kd.R_reads' (Kd.R_move (Kd.R_bound huR) (w1 := W') (fun k hk => hW.block k hk.2.2.1 (fun e => by have h2 := hk.2.1; omega)))).2.2⟩
    have HC3 : Aside0 (w3.heap[w1.heap.size]? = some (.cells (colC n (swF (fun _ => mInf) (ul.take 0))) 3 (0, 0))) := ⟨(hb3.block _ (by omega)).trans HR.out⟩
    have HX3 : Aside0 (w3.heap[w1.heap.size + 1]? = some (.cells #[.slice (some ⟨w1.heap.size, 0, none⟩) n n] 25 (0, 0))) := ⟨(hb3.block _ hltX).trans HX.out⟩
    have HB3 := Aside0.mk (bCh HBq.out (bLo hb3 HBq.out.size))
    have hs3 : w1.heap.size + 1 < w3.heap.size := sb_lt HX3.out
    clear hb3 huR HR HX HBq HUP HMr hvl hvn2 hvn hltX
    go_wp2_with (fail)
    obtain ⟨wz, hwz⟩ : ∃ q, q = w3 := ⟨_, rfl⟩
    subst hwz
    go_loopw [52] (fun i wr => ∃ j : Nat, i = .int .i64 (j : Int) ∧ j ≤ m ∧ Aside0 (wr.heap[w1.heap.size]? = some (.cells (colC n (swF (fun _ => mInf) (ul.take j))) 3 (0, 0))) ∧ Aside0 (Bel (fun k => k = w1.heap.size) wz wr)) (fun i _ => m - (intOf i).toNat)
    case atStart => exact ⟨0, rfl, Nat.zero_le _, HC3, ⟨Bel.refl _ _⟩⟩
    case round => as_aux_lemma =>
     clear HC3
     obtain ⟨j, rfl, hj, HC, HBe⟩ := hrel
     have hX : wr.heap[w1.heap.size + 1]? = some (.cells #[.slice (some ⟨w1.heap.size, 0, none⟩) n n] 25 (0, 0)) := (HBe.out.block _ (by omega) (by omega)).trans HX3.out
     by_cases hjm : j < m
     ·have HSS : Aside0 (swF (fun _ => mInf) (ul.take (j + 1)) = fset (swF (fun _ => mInf) (ul.take j)) (ul.getD j z50).f0.toNat (ul.getD j z50).f1) := ⟨by
       rw [gR_ ul (by have := HME.out; omega)]
       exact foldl_succ _ _ (by have := HME.out; omega)⟩
      have hlow := HLOW.out (ul.getD j z50) (by rw [gR_ ul (by have := HME.out; omega)]; exact List.getElem_mem _)
      have hlt := HLT.out (ul.getD j z50) (by rw [gR_ ul (by have := HME.out; omega)]; exact List.getElem_mem _)
      obtain ⟨ub, uo, rfl, hx0, hx1⟩ := reach_cells (HUS.out wr HBe.out) (i := j) (by have := HME.out; omega)
      generalize ul.getD j z50 = pq at HSS hlow hlt hx0 hx1
      obtain ⟨p0, p1⟩ := pq
      dsimp only at HSS hlow hlt hx0 hx1
      obtain ⟨u, rfl⟩ := Int.eq_ofNat_of_zero_le hlow.1
      rw [Int.toNat_natCast] at HSS
      have hun : u < n := by omega
      go_upto_region 17 with (fail)
      have hba : Below wr.heap.size wr (wr.alloc (Obj.cells #[.int .i64 (u : Int), .int .i64 p1] 50)) := (Below.refl _ _).alloc (Nat.le_refl _) _
      have HK1 := Aside0.mk (heap_alloc_new wr (Obj.cells #[.int .i64 (u : Int), .int .i64 p1] 50))
      have HC2 := Aside0.mk ((hba.block _ (sb_lt HC.out)).trans HC.out)
      have hX2 := (hba.block _ (sb_lt hX)).trans hX
      have HBe2 := Aside0.mk (HBe.out.below hba)
      clear hba HC hX HBe
      generalize wr.alloc (Obj.cells #[.int .i64 (u : Int), .int .i64 p1] 50) = wq at HK1 HC2 hX2 HBe2 ⊢
      generalize wr.heap.size = b6 at HK1 ⊢
      have y0 := (blk_cell HK1.out 0).trans rfl
      have y1 := (blk_cell HK1.out 1).trans rfl
      have y2 := (blk_cell hX2 0).trans rfl
      have y3 := (blk_cell HC2.out u).trans (colC_get hun)
      have y4 : wq.frozen? ⟨w1.heap.size, u, none⟩ = false := fz_of_blk HC2.out
      clear hX2
      go_wp2_with (fail)
      go_roundw
      case rel => exact ⟨j + 1, by go_num, by omega, ⟨by rw [sb_put HC2.out, colC_set, HSS.out]⟩, ⟨HBe2.out.setCell ⟨w1.heap.size, u, none⟩ (.int .i64 p1) (.inl rfl)⟩⟩
      case measure => simp [intOf]; omega
     ·have hut : ul.take j = ul := List.take_of_length_le (by have := HME.out; omega)
      rw [hut, HUE.out] at HC
      have HX4 := Aside0.mk hX
      have HB4 := Aside0.mk (bCh HB3.out (HBe.out.out (by omega) (fun k hk => by omega)))
      have hs4 : w1.heap.size + 1 < wr.heap.size := sb_lt hX
      clear hut HUS HX3 HB3 HBe hX HUE HLOW HLT
      cases b with
      | false =>
       go_wp2_with (fail)
       have hba : Below wr.heap.size wr (wr.alloc (Obj.cells #[.func (.func 61) #[.pointer (some ⟨q, 0, none⟩)] #[]] 109)) := (Below.refl _ _).alloc (Nat.le_refl _) _
       have HF := Aside0.mk (heap_alloc_new wr (Obj.cells #[.func (.func 61) #[.pointer (some ⟨q, 0, none⟩)] #[]] 109))
       replace HC := Aside0.mk ((hba.block _ (sb_lt HC.out)).trans HC.out)
       replace HX4 := Aside0.mk ((hba.block _ hs4).trans HX4.out)
       replace HB4 := Aside0.mk (bCh HB4.out (bLo hba (by omega)))
       clear hba
       generalize wr.alloc (Obj.cells #[.func (.func 61) #[.pointer (some ⟨q, 0, none⟩)] #[]] 109) = w5 at HF HC HX4 HB4 ⊢
       generalize wr.heap.size = b15 at HF hs4 ⊢
       have hs5 : b15 < w5.heap.size := sb_lt HF.out
       have HM5 := Aside0.mk (HM.out.below HB4.out)
       have HEC := Aside0.mk (Hier_Edges.calls HM5.out.hier (by have := HK.out.short (by omega); omega))
       refine HEC.out.mono ?_
       rintro e w6 ⟨v6, rfl, hr6, hb6⟩
       obtain ⟨eA, ec, rfl⟩ := Kd.R_slice hr6
       have HES : Aside0 (∀ W', Bel (fun k => k = w1.heap.size) w6 W' → Kd.C k58 W' eA (eL n arcs L) (hierS n arcs L).edges) := ⟨fun W' hW => (Kd.R_reads' (Kd.R_move (Kd.R_bound hr6) (w1 := W') (fun k hk => hW.block k hk.2.2.1 (fun e => by have h2 := hk.2.1; omega)))).2.2⟩
       have HF6 := Aside0.mk ((hb6.block _ hs5).trans HF.out)
       have HC6 := Aside0.mk ((hb6.block _ (sb_lt HC.out)).trans HC.out)
       have HX6 := Aside0.mk ((hb6.block _ (sb_lt HX4.out)).trans HX4.out)
       have HB6 := Aside0.mk (bCh HB4.out (bLo hb6 (by omega)))
       have hs6 : w5.heap.size ≤ w6.heap.size := hb6.size
       clear hr6 hb6 HEC HF HC HX4 HB4 HM5
       go_upto_region 23 with (fail)
       have hbb : Below w6.heap.size w6 (w6.alloc (Obj.cells #[.slice eA (hierS n arcs L).edges.length ec] 22)) := (Below.refl _ _).alloc (Nat.le_refl _) _
       have HG7 := Aside0.mk (heap_alloc_new w6 (Obj.cells #[.slice eA (hierS n arcs L).edges.length ec] 22))
       have HE7 : Aside0 (∀ W', Bel (fun k => k = w1.heap.size) (w6.alloc (Obj.cells #[.slice eA (hierS n arcs L).edges.length ec] 22)) W' → Kd.C k58 W' eA (eL n arcs L) (hierS n arcs L).edges) := ⟨fun W' hW => HES.out W' (((Bel.refl (fun k => k = w1.heap.size) w6).below hbb).trans hW (fun _ _ h => h))⟩
       have HF7 := Aside0.mk ((hbb.block _ (sb_lt HF6.out)).trans HF6.out)
       have HC7 := Aside0.mk ((hbb.block _ (sb_lt HC6.out)).trans HC6.out)
       have HX7 := Aside0.mk ((hbb.block _ (sb_lt HX6.out)).trans HX6.out)
       have HB7 := Aside0.mk (bCh HB6.out (bLo hbb (by omega)))
       clear hbb HES HF6 HC6 HX6 HB6
       generalize w6.alloc (Obj.cells #[.slice eA (hierS n arcs L).edges.length ec] 22) = w7 at HG7 HE7 HF7 HC7 HX7 HB7 ⊢
       have hs16 : b15 < w6.heap.size := by omega
       generalize w6.heap.size = b16 at HG7 hs16 ⊢
       have hs7 : b16 < w7.heap.size := sb_lt HG7.out
       obtain ⟨m2, HME2⟩ : ∃ m2, Aside0 ((hierS n arcs L).edges.length = m2) := ⟨_, ⟨rfl⟩⟩
       have HSI := Aside0.mk (fun d (hd : d ≤ n) => HK.out.rng_all (HK.out.sw_inv (b := false) HWL.out HWR.out hn hx d hd))
       have HSX : Aside0 (∀ (W : World) (C : Nat → Int), W.heap[w1.heap.size]? = some (.cells (colC n C) 3 (0, 0)) → (∀ a, a < n → 0 ≤ C a ∧ C a ≤ mInf) → Bel (fun k => k = w1.heap.size) w7 W → SwX W q p n arcs L ws false b15 (w1.heap.size + 1) b16 w1.heap.size eA ec C) := ⟨fun W C h1 h2 h3 =>
        ⟨HM.out.below (bCh HB7.out (h3.out (by omega) (fun k hk => by omega))), (blk_cell ((h3.block _ (by omega) (by omega)).trans HF7.out) 0).trans rfl, (blk_cell ((h3.block _ (by omega) (by omega)).trans HX7.out) 0).trans rfl, (blk_cell ((h3.block _ (by omega) (by omega)).trans HG7.out) 0).trans rfl, HE7.out W h3, h1, h2⟩⟩
       clear HF7 HG7 HE7
       have HSW : Aside0 (∀ d, swR n arcs L ws false (swF (fun _ => mInf) ((climbF n arcs L ws false x).l.map toR)) (d + 1) = swV n arcs L ws false (vtx L (n - 1 - d)) (swR n arcs L ws false (swF (fun _ => mInf) ((climbF n arcs L ws false x).l.map toR)) d)) := ⟨fun d => rfl⟩
       have HALL : Aside0 (swAll n arcs L ws false x = colL n (swR n arcs L ws false (swF (fun _ => mInf) ((climbF n arcs L ws false x).l.map toR)) n)) := ⟨rfl⟩
       replace HC7 : Aside0 (w7.heap[w1.heap.size]? = some (.cells (colC n (swR n arcs L ws false (swF (fun _ => mInf) ((climbF n arcs L ws false x).l.map toR)) 0)) 3 (0, 0))) := HC7
       generalize hG : swR n arcs L ws false (swF (fun _ => mInf) ((climbF n arcs L ws false x).l.map toR)) = G at HC7 HSI HSW HALL
       clear hG
       go_wp2_with (fail)
       go_loopw [72] (fun i wr => ∃ d : Nat, i = .int .i64 (d : Int) ∧ d ≤ n ∧ Aside0 (wr.heap[w1.heap.size]? = some (.cells (colC n (G d)) 3 (0, 0))) ∧ Aside0 (Bel (fun k => k = w1.heap.size) w7 wr)) (fun i _ => n - (intOf i).toNat)
       case atStart => exact ⟨0, rfl, Nat.zero_le _, HC7, ⟨Bel.refl _ _⟩⟩
       case round => as_aux_lemma =>
        clear HC7
        obtain ⟨d, rfl, hd, HC, HBe⟩ := hrel
        have HBr := Aside0.mk (bCh HB7.out (HBe.out.out (by omega) (fun k hk => by omega)))
        by_cases hdn : d < n
        ·obtain ⟨n1, hn1⟩ : ∃ n1, n = n1 + 1 := ⟨n - 1, by omega⟩
         obtain ⟨kk, hkk⟩ : ∃ kk, n1 = kk + d := ⟨n1 - d, by omega⟩
         have hwr1 : IntKind.i64.wrap ((n : Int) - 1) = (n1 : Int) := by rw [i64_w]; unfold wrap64; omega
         have hwr2 : IntKind.i64.wrap ((n1 : Int) - (d : Int)) = (kk : Int) := by rw [i64_w]; unfold wrap64; omega
         have hkn : kk < n := by omega
         have HSG := HSW.out d
         rw [show n - 1 - d = kk by omega] at HSG
         obtain ⟨hvk, hvke⟩ := HK.out.vtx_lt hkn
         obtain ⟨ob, oo, rfl, hok⟩ := cells_al (Kd.C_below HO.out HBr.out) kk (by have := HLL.out; omega)
         rw [hvke] at hok
         have HEI := Aside0.mk (fun e => HK.out.sw_edge (e := e) hkn)
         generalize vtx L kk = v at hvk hok HSG HEI
         have HHU := Aside0.mk (Hier_Up.calls (HM.out.below HBr.out).hier HK.out.ok (v : Int) (by rw [Int.toNat_natCast]; exact HK.out.capu (by omega) v))
         clear hn1 hkk hvke
         go_wp2_with (fail)
         refine HHU.out.mono ?_
         rintro e w8 ⟨uv, rfl, hr8, hb8⟩
         obtain ⟨uA2, uc2, rfl⟩ := Kd.R_slice hr8
         obtain ⟨us, HUS⟩ : ∃ us, Aside0 (upS n (hierS n arcs L) (v : Int) = us) := ⟨_, ⟨rfl⟩⟩
         have HVD : Aside0 (swV n arcs L ws false v (G d) = us.foldl (swE (swT n arcs L) (swW n arcs L ws true) v) (G d)) := ⟨by rw [← HUS.out]; rfl⟩
         rw [HUS.out] at hr8 HEI ⊢
         obtain ⟨un, HUN⟩ : ∃ un, Aside0 (us.length = un) := ⟨_, ⟨rfl⟩⟩
         have hunl := (Kd.R_reads' hr8).1
         have HUR : Aside0 (∀ W', Bel (fun k => k = w1.heap.size) w8 W' → Kd.C (Kd.int .i64) W' uA2 us.length us) := ⟨fun W' hW => (Kd.R_reads' (Kd.R_move (Kd.R_bound hr8) (w1 := W') (fun k hk => hW.block k hk.2.2.1 (fun e => by have h2 := hk.2.1; have := sb_lt HC.out; omega)))).2.2⟩
         have hul8 := (Kd.R_reads' hr8).2.2.2.1
         have HC8 := Aside0.mk ((hb8.block _ (sb_lt HC.out)).trans HC.out)
         have HB8 := Aside0.mk (HBe.out.below hb8)
         have hrg := HSI.out d (by omega)
         rw [HUN.out] at hul8 ⊢
         clear hr8 hb8 hok HHU HC HBe HBr hunl
         go_wp2_with (fail)
         go_loopw [86] (fun i wr => ∃ j : Nat, i = .int .i64 (j : Int) ∧ j ≤ un ∧ (∀ a, a < n → 0 ≤ (us.take j).foldl (swE (swT n arcs L) (swW n arcs L ws true) v) (G d) a ∧ (us.take j).foldl (swE (swT n arcs L) (swW n arcs L ws true) v) (G d) a ≤ mInf) ∧ Aside0 (wr.heap[w1.heap.size]? = some (.cells (colC n ((us.take j).foldl (swE (swT n arcs L) (swW n arcs L ws true) v) (G d))) 3 (0, 0))) ∧ Aside0 (Bel (fun k => k = w1.heap.size) w8 wr)) (fun i _ => un - (intOf i).toNat)
         case atStart => exact ⟨0, rfl, Nat.zero_le _, hrg, HC8, ⟨Bel.refl _ _⟩⟩
         case round => as_aux_lemma =>
          clear HC8 hrg
          obtain ⟨j, rfl, hj, hrg, HC, HBe⟩ := hrel
          have HB7r := Aside0.mk (HB8.out.trans HBe.out (fun _ _ h => h))
          by_cases hju : j < un
          ·have hjl : j < us.length := by have := HUN.out; omega
           have HST : Aside0 ((us.take (j + 1)).foldl (swE (swT n arcs L) (swW n arcs L ws true) v) (G d) = swE (swT n arcs L) (swW n arcs L ws true) v ((us.take j).foldl (swE (swT n arcs L) (swW n arcs L ws true) v) (G d)) (us.getD j 0)) := ⟨foldl_take_succ _ _ hjl⟩
           obtain ⟨i, y, hi, hil, _, _, hyn, _, hTy⟩ := HEI.out (us.getD j 0) (mem_getD hjl)
           obtain ⟨lb2, lo3, rfl, hlk⟩ := cells_al (HUR.out wr HBe.out) j hjl
           rw [hi] at hlk HST hTy
           have HRG2 := Aside0.mk (swE_rng (T := swT n arcs L) (Wt := swW n arcs L ws true) (v := v) (e := (i : Int)) (by unfold swW; exact (wtS_bound _).1) (by rw [hTy]; exact (HK.out.vtx_lt hyn).1) hrg)
           have HXW := Aside0.mk (HSX.out wr _ HC.out hrg HB7r.out)
           generalize (us.take j).foldl (swE (swT n arcs L) (swW n arcs L ws true) v) (G d) = D at HC HST HRG2 HXW
           clear hi hTy hrg
           go_wp2_with (fail)
           refine (sweep_relaxF.calls HK.out hn HXW.out hvk hil).mono ?_
           rintro e w9 ⟨rfl, hC9, hB9⟩
           have HC9 := Aside0.mk hC9
           have HB9 := Aside0.mk (HBe.out.trans hB9 (fun _ _ h => h))
           rw [← HST.out] at HC9 HRG2
           clear hC9 hB9 HXW hlk
           go_wp2_with (fail)
           go_roundw
           case rel => exact ⟨j + 1, by go_num, by omega, HRG2.out, HC9, HB9⟩
           case measure => simp [intOf]; omega
          ·have hut : us.take j = us := List.take_of_length_le (by have := HUN.out; omega)
           rw [hut, ← HVD.out, ← HSG] at HC
           go_wp2_with (fail)
           go_roundw
           case rel => exact ⟨d + 1, by go_num, by omega, HC, HB7r⟩
           case measure => simp [intOf]; omega
        ·have hdn2 : d = n := by omega
         rw [hdn2] at HC
         have hx9 := (blk_cell ((HBe.out.block _ (by omega) (by omega)).trans HX7.out) 0).trans rfl
         go_wp2_with (fail)
         go_ret2
         refine ⟨bCh HB.out (bLo HBr.out HB.out.size), .inr ⟨x, some ⟨w1.heap.size, 0, none⟩, n, hx, (HK.out.vtx_lt hx).2, rfl, Nat.le_refl _, ?_⟩⟩
         rw [HALL.out]
         have hcl := C_lit (l := colL n (G n)) HC.out (by simp [colC, colL]) (by rw [colL_len]; omega)
         rw [colL_len] at hcl
         exact hcl
      | true =>
       go_wp2_with (fail)
       have hba : Below wr.heap.size wr (wr.alloc (Obj.cells #[.func (.func 60) #[.pointer (some ⟨q, 0, none⟩)] #[]] 109)) := (Below.refl _ _).alloc (Nat.le_refl _) _
       have HF := Aside0.mk (heap_alloc_new wr (Obj.cells #[.func (.func 60) #[.pointer (some ⟨q, 0, none⟩)] #[]] 109))
       replace HC := Aside0.mk ((hba.block _ (sb_lt HC.out)).trans HC.out)
       replace HX4 := Aside0.mk ((hba.block _ hs4).trans HX4.out)
       replace HB4 := Aside0.mk (bCh HB4.out (bLo hba (by omega)))
       clear hba
       generalize wr.alloc (Obj.cells #[.func (.func 60) #[.pointer (some ⟨q, 0, none⟩)] #[]] 109) = w5 at HF HC HX4 HB4 ⊢
       generalize wr.heap.size = b15 at HF hs4 ⊢
       have hs5 : b15 < w5.heap.size := sb_lt HF.out
       have HM5 := Aside0.mk (HM.out.below HB4.out)
       have HEC := Aside0.mk (Hier_Edges.calls HM5.out.hier (by have := HK.out.short (by omega); omega))
       refine HEC.out.mono ?_
       rintro e w6 ⟨v6, rfl, hr6, hb6⟩
       obtain ⟨eA, ec, rfl⟩ := Kd.R_slice hr6
       have HES : Aside0 (∀ W', Bel (fun k => k = w1.heap.size) w6 W' → Kd.C k58 W' eA (eL n arcs L) (hierS n arcs L).edges) := ⟨fun W' hW => (Kd.R_reads' (Kd.R_move (Kd.R_bound hr6) (w1 := W') (fun k hk => hW.block k hk.2.2.1 (fun e => by have h2 := hk.2.1; omega)))).2.2⟩
       have HF6 := Aside0.mk ((hb6.block _ hs5).trans HF.out)
       have HC6 := Aside0.mk ((hb6.block _ (sb_lt HC.out)).trans HC.out)
       have HX6 := Aside0.mk ((hb6.block _ (sb_lt HX4.out)).trans HX4.out)
       have HB6 := Aside0.mk (bCh HB4.out (bLo hb6 (by omega)))
       have hs6 : w5.heap.size ≤ w6.heap.size := hb6.size
       clear hr6 hb6 HEC HF HC HX4 HB4 HM5
       go_upto_region 23 with (fail)
       have hbb : Below w6.heap.size w6 (w6.alloc (Obj.cells #[.slice eA (hierS n arcs L).edges.length ec] 22)) := (Below.refl _ _).alloc (Nat.le_refl _) _
       have HG7 := Aside0.mk (heap_alloc_new w6 (Obj.cells #[.slice eA (hierS n arcs L).edges.length ec] 22))
       have HE7 : Aside0 (∀ W', Bel (fun k => k = w1.heap.size) (w6.alloc (Obj.cells #[.slice eA (hierS n arcs L).edges.length ec] 22)) W' → Kd.C k58 W' eA (eL n arcs L) (hierS n arcs L).edges) := ⟨fun W' hW => HES.out W' (((Bel.refl (fun k => k = w1.heap.size) w6).below hbb).trans hW (fun _ _ h => h))⟩
       have HF7 := Aside0.mk ((hbb.block _ (sb_lt HF6.out)).trans HF6.out)
       have HC7 := Aside0.mk ((hbb.block _ (sb_lt HC6.out)).trans HC6.out)
       have HX7 := Aside0.mk ((hbb.block _ (sb_lt HX6.out)).trans HX6.out)
       have HB7 := Aside0.mk (bCh HB6.out (bLo hbb (by omega)))
       clear hbb HES HF6 HC6 HX6 HB6
       generalize w6.alloc (Obj.cells #[.slice eA (hierS n arcs L).edges.length ec] 22) = w7 at HG7 HE7 HF7 HC7 HX7 HB7 ⊢
       have hs16 : b15 < w6.heap.size := by omega
       generalize w6.heap.size = b16 at HG7 hs16 ⊢
       have hs7 : b16 < w7.heap.size := sb_lt HG7.out
       obtain ⟨m2, HME2⟩ : ∃ m2, Aside0 ((hierS n arcs L).edges.length = m2) := ⟨_, ⟨rfl⟩⟩
       have HSI := Aside0.mk (fun d (hd : d ≤ n) => HK.out.rng_all (HK.out.sw_inv (b := true) HWL.out HWR.out hn hx d hd))
       have HSX : Aside0 (∀ (W : World) (C : Nat → Int), W.heap[w1.heap.size]? = some (.cells (colC n C) 3 (0, 0)) → (∀ a, a < n → 0 ≤ C a ∧ C a ≤ mInf) → Bel (fun k => k = w1.heap.size) w7 W → SwX W q p n arcs L ws true b15 (w1.heap.size + 1) b16 w1.heap.size eA ec C) := ⟨fun W C h1 h2 h3 =>
        ⟨HM.out.below (bCh HB7.out (h3.out (by omega) (fun k hk => by omega))), (blk_cell ((h3.block _ (by omega) (by omega)).trans HF7.out) 0).trans rfl, (blk_cell ((h3.block _ (by omega) (by omega)).trans HX7.out) 0).trans rfl, (blk_cell ((h3.block _ (by omega) (by omega)).trans HG7.out) 0).trans rfl, HE7.out W h3, h1, h2⟩⟩
       clear HF7 HG7 HE7
       have HSW : Aside0 (∀ d, swR n arcs L ws true (swF (fun _ => mInf) ((climbF n arcs L ws true x).l.map toR)) (d + 1) = swV n arcs L ws true (vtx L (n - 1 - d)) (swR n arcs L ws true (swF (fun _ => mInf) ((climbF n arcs L ws true x).l.map toR)) d)) := ⟨fun d => rfl⟩
       have HALL : Aside0 (swAll n arcs L ws true x = colL n (swR n arcs L ws true (swF (fun _ => mInf) ((climbF n arcs L ws true x).l.map toR)) n)) := ⟨rfl⟩
       replace HC7 : Aside0 (w7.heap[w1.heap.size]? = some (.cells (colC n (swR n arcs L ws true (swF (fun _ => mInf) ((climbF n arcs L ws true x).l.map toR)) 0)) 3 (0, 0))) := HC7
       generalize hG : swR n arcs L ws true (swF (fun _ => mInf) ((climbF n arcs L ws true x).l.map toR)) = G at HC7 HSI HSW HALL
       clear hG
       go_wp2_with (fail)
       go_loopw [72] (fun i wr => ∃ d : Nat, i = .int .i64 (d : Int) ∧ d ≤ n ∧ Aside0 (wr.heap[w1.heap.size]? = some (.cells (colC n (G d)) 3 (0, 0))) ∧ Aside0 (Bel (fun k => k = w1.heap.size) w7 wr)) (fun i _ => n - (intOf i).toNat)
       case atStart => exact ⟨0, rfl, Nat.zero_le _, HC7, ⟨Bel.refl _ _⟩⟩
       case round => as_aux_lemma =>
        clear HC7
        obtain ⟨d, rfl, hd, HC, HBe⟩ := hrel
        have HBr := Aside0.mk (bCh HB7.out (HBe.out.out (by omega) (fun k hk => by omega)))
        by_cases hdn : d < n
        ·obtain ⟨n1, hn1⟩ : ∃ n1, n = n1 + 1 := ⟨n - 1, by omega⟩
         obtain ⟨kk, hkk⟩ : ∃ kk, n1 = kk + d := ⟨n1 - d, by omega⟩
         have hwr1 : IntKind.i64.wrap ((n : Int) - 1) = (n1 : Int) := by rw [i64_w]; unfold wrap64; omega
         have hwr2 : IntKind.i64.wrap ((n1 : Int) - (d : Int)) = (kk : Int) := by rw [i64_w]; unfold wrap64; omega
         have hkn : kk < n := by omega
         have HSG := HSW.out d
         rw [show n - 1 - d = kk by omega] at HSG
         obtain ⟨hvk, hvke⟩ := HK.out.vtx_lt hkn
         obtain ⟨ob, oo, rfl, hok⟩ := cells_al (Kd.C_below HO.out HBr.out) kk (by have := HLL.out; omega)
         rw [hvke] at hok
         have HEI := Aside0.mk (fun e => HK.out.sw_edge (e := e) hkn)
         generalize vtx L kk = v at hvk hok HSG HEI
         have HHU := Aside0.mk (Hier_Up.calls (HM.out.below HBr.out).hier HK.out.ok (v : Int) (by rw [Int.toNat_natCast]; exact HK.out.capu (by omega) v))
         clear hn1 hkk hvke
         go_wp2_with (fail)
         refine HHU.out.mono ?_
         rintro e w8 ⟨uv, rfl, hr8, hb8⟩
         obtain ⟨uA2, uc2, rfl⟩ := Kd.R_slice hr8
         obtain ⟨us, HUS⟩ : ∃ us, Aside0 (upS n (hierS n arcs L) (v : Int) = us) := ⟨_, ⟨rfl⟩⟩
         have HVD : Aside0 (swV n arcs L ws true v (G d) = us.foldl (swE (swT n arcs L) (swW n arcs L ws false) v) (G d)) := ⟨by rw [← HUS.out]; rfl⟩
         rw [HUS.out] at hr8 HEI ⊢
         obtain ⟨un, HUN⟩ : ∃ un, Aside0 (us.length = un) := ⟨_, ⟨rfl⟩⟩
         have hunl := (Kd.R_reads' hr8).1
         have HUR : Aside0 (∀ W', Bel (fun k => k = w1.heap.size) w8 W' → Kd.C (Kd.int .i64) W' uA2 us.length us) := ⟨fun W' hW => (Kd.R_reads' (Kd.R_move (Kd.R_bound hr8) (w1 := W') (fun k hk => hW.block k hk.2.2.1 (fun e => by have h2 := hk.2.1; have := sb_lt HC.out; omega)))).2.2⟩
         have hul8 := (Kd.R_reads' hr8).2.2.2.1
         have HC8 := Aside0.mk ((hb8.block _ (sb_lt HC.out)).trans HC.out)
         have HB8 := Aside0.mk (HBe.out.below hb8)
         have hrg := HSI.out d (by omega)
         rw [HUN.out] at hul8 ⊢
         clear hr8 hb8 hok HHU HC HBe HBr hunl
         go_wp2_with (fail)
         go_loopw [86] (fun i wr => ∃ j : Nat, i = .int .i64 (j : Int) ∧ j ≤ un ∧ (∀ a, a < n → 0 ≤ (us.take j).foldl (swE (swT n arcs L) (swW n arcs L ws false) v) (G d) a ∧ (us.take j).foldl (swE (swT n arcs L) (swW n arcs L ws false) v) (G d) a ≤ mInf) ∧ Aside0 (wr.heap[w1.heap.size]? = some (.cells (colC n ((us.take j).foldl (swE (swT n arcs L) (swW n arcs L ws false) v) (G d))) 3 (0, 0))) ∧ Aside0 (Bel (fun k => k = w1.heap.size) w8 wr)) (fun i _ => un - (intOf i).toNat)
         case atStart => exact ⟨0, rfl, Nat.zero_le _, hrg, HC8, ⟨Bel.refl _ _⟩⟩
         case round => as_aux_lemma =>
          clear HC8 hrg
          obtain ⟨j, rfl, hj, hrg, HC, HBe⟩ := hrel
          have HB7r := Aside0.mk (HB8.out.trans HBe.out (fun _ _ h => h))
          by_cases hju : j < un
          ·have hjl : j < us.length := by have := HUN.out; omega
           have HST : Aside0 ((us.take (j + 1)).foldl (swE (swT n arcs L) (swW n arcs L ws false) v) (G d) = swE (swT n arcs L) (swW n arcs L ws false) v ((us.take j).foldl (swE (swT n arcs L) (swW n arcs L ws false) v) (G d)) (us.getD j 0)) := ⟨foldl_take_succ _ _ hjl⟩
           obtain ⟨i, y, hi, hil, _, _, hyn, _, hTy⟩ := HEI.out (us.getD j 0) (mem_getD hjl)
           obtain ⟨lb2, lo3, rfl, hlk⟩ := cells_al (HUR.out wr HBe.out) j hjl
           rw [hi] at hlk HST hTy
           have HRG2 := Aside0.mk (swE_rng (T := swT n arcs L) (Wt := swW n arcs L ws false) (v := v) (e := (i : Int)) (by unfold swW; exact (wtS_bound _).1) (by rw [hTy]; exact (HK.out.vtx_lt hyn).1) hrg)
           have HXW := Aside0.mk (HSX.out wr _ HC.out hrg HB7r.out)
           generalize (us.take j).foldl (swE (swT n arcs L) (swW n arcs L ws false) v) (G d) = D at HC HST HRG2 HXW
           clear hi hTy hrg
           go_wp2_with (fail)
           refine (sweep_relaxT.calls HK.out hn HXW.out hvk hil).mono ?_
           rintro e w9 ⟨rfl, hC9, hB9⟩
           have HC9 := Aside0.mk hC9
           have HB9 := Aside0.mk (HBe.out.trans hB9 (fun _ _ h => h))
           rw [← HST.out] at HC9 HRG2
           clear hC9 hB9 HXW hlk
           go_wp2_with (fail)
           go_roundw
           case rel => exact ⟨j + 1, by go_num, by omega, HRG2.out, HC9, HB9⟩
           case measure => simp [intOf]; omega
          ·have hut : us.take j = us := List.take_of_length_le (by have := HUN.out; omega)
           rw [hut, ← HVD.out, ← HSG] at HC
           go_wp2_with (fail)
           go_roundw
           case rel => exact ⟨d + 1, by go_num, by omega, HC, HB7r⟩
           case measure => simp [intOf]; omega
        ·have hdn2 : d = n := by omega
         rw [hdn2] at HC
         have hx9 := (blk_cell ((HBe.out.block _ (by omega) (by omega)).trans HX7.out) 0).trans rfl
         go_wp2_with (fail)
         go_ret2
         refine ⟨bCh HB.out (bLo HBr.out HB.out.size), .inr ⟨x, some ⟨w1.heap.size, 0, none⟩, n, hx, (HK.out.vtx_lt hx).2, rfl, Nat.le_refl _, ?_⟩⟩
         rw [HALL.out]
         have hcl := C_lit (l := colL n (G n)) HC.out (by simp [colC, colL]) (by rw [colL_len]; omega)
         rw [colL_len] at hcl
         exact hcl
end Go.Proofs.Ytfnophaiamkmpaa.Print
namespace Go.Proofs.Ytfnophaiamkmpaa.Print
open Go.RowKit Go.Proofs.YtfnophaiamkmpaaW.PrintWords Go.Proofs.YtfnophaiamkmpaaW.PrintLast Go.Proofs.YtfnophaiamkmpaaW.PrintMore
set_option linter.unusedVariables false
set_option linter.unusedSimpArgs false
def SwOut (n : Nat) (arcs : List S58) (L ws : List Int) (s : Int) (b : Bool) (w : World) (e : Ending) (w' : World) : Prop :=
 Below w.heap.size w w' ∧ ((hasV n s = false ∧ e = .returned (.tuple #[.slice none 0 0, .int .i64 2])) ∨
   ∃ (x : Nat) (A : Option Addr) (c : Nat), x < n ∧ L.getD x 0 = s ∧ e = .returned (.tuple #[.slice A n c, .int .i64 0]) ∧ n ≤ c ∧ Kd.C (Kd.int .i64) w' A n (swAll n arcs L ws b x))
set_option maxHeartbeats 1600000 in
set_option maxRecDepth 100000 in
theorem sweep_From.nil {w : World} (s : Int) : Calls Try.prog 36 #[.pointer none, .int .i64 s] w fun e w' => e = .returned (.tuple #[.slice none 0 0, .int .i64 1]) ∧ Below w.heap.size w w' := by
 go_enter Try.func36, Try.ntmps36
 go_wp2_with (fail)
 refine (sweep_all.nil s false).mono ?_
 rintro e w' ⟨rfl, hb⟩
 go_wp2
 go_ret2
 exact ⟨rfl, hb⟩
set_option maxHeartbeats 1600000 in
set_option maxRecDepth 100000 in
theorem sweep_From.calls {w : World} {q p n : Nat} {arcs : List S58} {L ws : List Int} (hk : Hk n arcs L) (hn : n ≤ 20) (hM : MetH w q p n arcs L ws) (hwl : ws.length = arcs.length) (hwr : ∀ i, i < ws.length → ws.getD i 0 ≤ 1073741824) (s : Int) :
  Calls Try.prog 36 #[.pointer (some ⟨q, 0, none⟩), .int .i64 s] w (SwOut n arcs L ws s false w) := by
 have HC := Aside0.mk (sweep_all.calls hk hn hM hwl hwr s false)
 clear hk hM hwl hwr
 go_enter Try.func36, Try.ntmps36
 go_wp2_with (fail)
 refine HC.out.mono ?_
 rintro e w' ⟨hb, (⟨hv, rfl⟩ | ⟨x, A, c, hx, hL, rfl, hc, hC⟩)⟩
 ·go_wp2
  go_ret2
  exact ⟨hb, .inl ⟨hv, rfl⟩⟩
 ·have HX := Aside0.mk (And.intro hb (And.intro hx (And.intro hL (And.intro hc hC))))
  clear hb hx hL hc hC
  go_wp2
  go_ret2
  exact ⟨HX.out.1, .inr ⟨x, A, c, HX.out.2.1, HX.out.2.2.1, rfl, HX.out.2.2.2.1, HX.out.2.2.2.2⟩⟩
set_option maxHeartbeats 1600000 in
set_option maxRecDepth 100000 in
theorem sweep_To.calls {w : World} {q p n : Nat} {arcs : List S58} {L ws : List Int} (hk : Hk n arcs L) (hn : n ≤ 20) (hM : MetH w q p n arcs L ws) (hwl : ws.length = arcs.length) (hwr : ∀ i, i < ws.length → ws.getD i 0 ≤ 1073741824) (s : Int) :
  Calls Try.prog 38 #[.pointer (some ⟨q, 0, none⟩), .int .i64 s] w (SwOut n arcs L ws s true w) := by
 have HC := Aside0.mk (sweep_all.calls hk hn hM hwl hwr s true)
 clear hk hM hwl hwr
 go_enter Try.func38, Try.ntmps38
 go_wp2_with (fail)
 refine HC.out.mono ?_
 rintro e w' ⟨hb, (⟨hv, rfl⟩ | ⟨x, A, c, hx, hL, rfl, hc, hC⟩)⟩
 ·go_wp2
  go_ret2
  exact ⟨hb, .inl ⟨hv, rfl⟩⟩
 ·have HX := Aside0.mk (And.intro hb (And.intro hx (And.intro hL (And.intro hc hC))))
  clear hb hx hL hc hC
  go_wp2
  go_ret2
  exact ⟨HX.out.1, .inr ⟨x, A, c, HX.out.2.1, HX.out.2.2.1, rfl, HX.out.2.2.2.1, HX.out.2.2.2.2⟩⟩
def wiA (d : List Int) (lim : Int) (k : Nat) : List S50 := ((List.range k).filter (fun v => decide (d.getD v 0 ≤ lim) && decide (d.getD v 0 < mInf))).map (fun (v : Nat) => ⟨(v : Int), d.getD v 0⟩)
theorem wiA_yes {d : List Int} {lim : Int} {k : Nat} (h1 : d.getD k 0 ≤ lim) (h2 : d.getD k 0 < mInf) : wiA d lim (k + 1) = wiA d lim k ++ [⟨(k : Int), d.getD k 0⟩] := by
 unfold wiA
 rw [List.range_succ, List.filter_append, List.map_append]
 have : (decide (d.getD k 0 ≤ lim) && decide (d.getD k 0 < mInf)) = true := by rw [decide_eq_true h1, decide_eq_true h2]; rfl
 simp only [List.filter_cons, List.filter_nil, this, if_true, List.map_cons, List.map_nil]
theorem wiA_no {d : List Int} {lim : Int} {k : Nat} (h : ¬ (d.getD k 0 ≤ lim ∧ d.getD k 0 < mInf)) : wiA d lim (k + 1) = wiA d lim k := by
 unfold wiA
 rw [List.range_succ, List.filter_append]
 have : (decide (d.getD k 0 ≤ lim) && decide (d.getD k 0 < mInf)) = false := by
  rw [Bool.and_eq_false_iff]
  by_cases h1 : d.getD k 0 ≤ lim
  ·exact .inr (decide_eq_false (fun h2 => h ⟨h1, h2⟩))
  ·exact .inl (decide_eq_false h1)
 simp only [List.filter_cons, List.filter_nil, this]
 simp
theorem wiA_len (d : List Int) (lim : Int) (k : Nat) : (wiA d lim k).length ≤ k := by
 unfold wiA
 rw [List.length_map]
 have := List.length_filter_le (fun v => decide (d.getD v 0 ≤ lim) && decide (d.getD v 0 < mInf)) (List.range k)
 simpa using this
def WnOut (n : Nat) (arcs : List S58) (L ws : List Int) (s lim : Int) (w : World) (e : Ending) (w' : World) : Prop :=
 Below w.heap.size w w' ∧ ((hasV n s = false ∧ e = .returned (.tuple #[.slice none 0 0, .int .i64 2])) ∨
   ∃ (x : Nat) (A : Option Addr) (c : Nat), x < n ∧ L.getD x 0 = s ∧ e = .returned (.tuple #[.slice A (wiA (swAll n arcs L ws false x) lim n).length c, .int .i64 0]) ∧ (wiA (swAll n arcs L ws false x) lim n).length ≤ c ∧ Kd.C k50 w' A (wiA (swAll n arcs L ws false x) lim n).length (stL (fun q => q.f1) (wiA (swAll n arcs L ws false x) lim n)))
set_option maxHeartbeats 6400000 in
set_option maxRecDepth 100000 in
theorem sweep_Within.calls {w : World} {q p n : Nat} {arcs : List S58} {L ws : List Int} (hk : Hk n arcs L) (hn : n ≤ 19) (hM : MetH w q p n arcs L ws) (hwl : ws.length = arcs.length) (hwr : ∀ i, i < ws.length → ws.getD i 0 ≤ 1073741824) (s lim : Int) :
  Calls Try.prog 41 #[.pointer (some ⟨q, 0, none⟩), .int .i64 s, .int .i64 lim] w (WnOut n arcs L ws s lim w) := by
 have HC := Aside0.mk (sweep_From.calls hk (by omega) hM hwl hwr s)
 clear hk hM hwl hwr
 go_enter Try.func41, Try.ntmps41
 go_wp2_with (fail)
 refine HC.out.mono ?_
 rintro e w1 ⟨hb, (⟨hv, rfl⟩ | ⟨x, A, c, hx, hL, rfl, hc, hC⟩)⟩
 ·go_wp2_with (fail)
  go_ret2
  exact ⟨hb, .inl ⟨hv, rfl⟩⟩
 ·have HX := Aside0.mk (And.intro hb (And.intro hx hL))
  clear HC hb hx hL
  have HD := Aside0.mk hC
  have hlen := Aside0.mk hC.1
  clear hC
  have HF : Aside0 (∀ e w', Below w.heap.size w w' → (∃ (A' : Option Addr) (c' : Nat), e = .returned (.tuple #[.slice A' (wiA (swAll n arcs L ws false x) lim n).length c', .int .i64 0]) ∧ (wiA (swAll n arcs L ws false x) lim n).length ≤ c' ∧ Kd.C k50 w' A' (wiA (swAll n arcs L ws false x) lim n).length (stL (fun q => q.f1) (wiA (swAll n arcs L ws false x) lim n))) → WnOut n arcs L ws s lim w e w') := ⟨fun e w' hb h => ⟨hb, .inr (by obtain ⟨A', c', h1, h2⟩ := h; exact ⟨x, A', c', HX.out.2.1, HX.out.2.2, h1, h2⟩)⟩⟩
  generalize swAll n arcs L ws false x = d at HD hlen HF
  have HB := Aside0.mk HX.out.1
  have HDl : Aside0 (Kd.C (Kd.int .i64) w1 A d.length d) := ⟨by rw [hlen.out]; exact HD.out⟩
  clear HX HD
  go_wp2_with (fail)
  go_loopw [23, 10] (fun i a wr => ∃ (k : Nat) (A' : Option Addr) (c' : Nat), i = .int .i64 (k : Int) ∧ a = .slice A' (wiA d lim k).length c' ∧ k ≤ n ∧ Aside0 (Below w1.heap.size w1 wr) ∧ Aside0 (Kd.R k50 50 wr w1.heap.size (fun _ => True) (.slice A' (wiA d lim k).length c') (wiA d lim k))) (fun i _ _ => n - (intOf i).toNat)
  case atStart => exact ⟨0, none, 0, rfl, rfl, Nat.zero_le _, ⟨Below.refl _ _⟩, ⟨Kd.R_nil _ _ _ _ _⟩⟩
  case round =>
   obtain ⟨k, A', c', rfl, rfl, hkn, HBL, HA⟩ := hrel
   have hil := wiA_len d lim k
   by_cases hkl : k < n
   ·rcases cells_of_C (Kd.C_below HDl.out HBL.out) with ⟨h0, _⟩ | ⟨_, b, off, hA, hce⟩
    ·have := hlen.out; omega
    first | subst hA | (injection hA with e1; injection e1 with e1 e2 _; subst e1 e2)
    have hcx := hce k (by have := hlen.out; omega)
    have HY := Aside0.mk (fun (h1 : d.getD k 0 ≤ lim) (h2 : d.getD k 0 < mInf) => wiA_yes h1 h2)
    have HN := Aside0.mk (fun (h : ¬ (d.getD k 0 ≤ lim ∧ d.getD k 0 < mInf)) => wiA_no h)
    clear hce
    generalize d.getD k 0 = y at hcx HY HN
    by_cases h1 : y ≤ lim
    ·by_cases h2 : y < 1152921504606846976
     ·have HYY := Aside0.mk (HY.out h1 h2)
      go_wp2_with (
       refine Kd.R_append k50 (w0 := w1) w1.heap.size (by rfl) (.tmp 39) (.tmp 46) 43 50 (.agg #[(.int .i64 0), (.int .i64 0)]) 16 rfl Try.underlying43 info50 rfl (by decide) (by decide) (.slice A' (wiA d lim k).length c') (wiA d lim k) ⟨(k : Int), y⟩ [.int .i64 (k : Int), .int .i64 y] (fun _ => True) (fun _ => False) rfl rfl ?aP (fun _ hk => hk.elim) ?aF ?aO ?aB ?aS ?aL ?_
       (case aP => exact k50_mkM _ _ _ _)
       (case aF => exact (fun _ _ => trivial))
       (case aO => exact HA.out)
       (case aB => exact HBL.out)
       (case aS => exact HBL.out.size)
       (case aL => omega)
       intro v9 w9 ho hb hg hat
       have HO9 := Aside0.mk ho
       have HB9 := Aside0.mk hb
       clear ho hb hg hat)
      rw [← HYY.out] at HO9
      obtain ⟨A9, c9, rfl⟩ := Kd.R_slice HO9.out
      go_roundw
      case rel => exact ⟨k + 1, A9, c9, by go_num, rfl, by omega, HB9, HO9⟩
      case measure => simp [intOf]; omega
     ·have HNN := Aside0.mk (HN.out (fun h => h2 h.2))
      have h3 : (1152921504606846976 : Int) ≤ y := by omega
      go_wp2_with (fail)
      go_roundw
      case rel => exact ⟨k + 1, A', c', by go_num, by rw [HNN.out], by omega, HBL, ⟨by rw [HNN.out]; exact HA.out⟩⟩
      case measure => simp [intOf]; omega
    ·have HNN := Aside0.mk (HN.out (fun h => h1 h.1))
     have h3 : lim < y := by omega
     go_wp2_with (fail)
     go_roundw
     case rel => exact ⟨k + 1, A', c', by go_num, by rw [HNN.out], by omega, HBL, ⟨by rw [HNN.out]; exact HA.out⟩⟩
     case measure => simp [intOf]; omega
   ·obtain rfl : k = n := by omega
    have HS := Aside0.mk (sort_stable.calls HA.out HBL.out.size (by omega))
    go_wp2_with (fail)
    refine HS.out.mono ?_
    rintro e w5 ⟨rfl, hb5, hC5⟩
    have H5 := Aside0.mk (And.intro hb5 hC5)
    clear hb5 hC5
    go_wp2_with (fail)
    go_ret2
    exact HF.out _ _ (below_then HB.out HB.out.size (HBL.out.trans H5.out.1)) ⟨A', c', rfl, (Kd.R_reads' HA.out).2.1, H5.out.2⟩
end Go.Proofs.Ytfnophaiamkmpaa.Print
