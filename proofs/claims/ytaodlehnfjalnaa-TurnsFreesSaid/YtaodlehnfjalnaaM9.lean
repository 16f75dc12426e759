/- Several texts of this claim in one: HTAdd, HTExp. -/
import Derived.Test.YtaodlehnfjalnaaM6
import Derived.Test.YtaodlehnfjalnaaM7
import Derived.Test.YtaodlehnfjalnaaF38
namespace Go.Proofs.Ytaodlehnfjalnaa.Print
open Go.RowKit Go.Proofs.YtaodlehnfjalnaaW.PrintWords Go.Proofs.YtaodlehnfjalnaaW.PrintLast Go.Proofs.YtaodlehnfjalnaaW.PrintMore
set_option linter.unusedVariables false
set_option linter.unusedSimpArgs false
structure GrowG (W w : World) (bg : Nat) (N : Int) (l : List S92) : Prop where
 lt : bg < W.heap.size
 bel : Bel (fun k => k = bg) W w
 row : ∃ v, w.heap[bg]? = some (.cells #[.int .i64 N, v] 51 (0, 0)) ∧ Kd.R k92 92 w W.heap.size (fun k => k ≠ bg) v l
theorem GrowG.below {W w w' : World} {bg : Nat} {N : Int} {l : List S92} (h : GrowG W w bg N l) (hb : Below w.heap.size w w') : GrowG W w' bg N l := by
 obtain ⟨h1, h2, v, h3, h4⟩ := h
 exact ⟨h1, h2.below hb, v, blk_below h3 hb, Kd.R_below h4 hb⟩
theorem GrowG.blk {W w : World} {bg : Nat} {N : Int} {l : List S92} (h : GrowG W w bg N l) {b : Nat} {o : Obj} (hb : W.heap[b]? = some o) (hne : b ≠ bg) : w.heap[b]? = some o := (h.bel.block b (blk_lt hb) hne).trans hb
theorem GrowG.C {α : Type} {d : Kd α} {B W w : World} {bg : Nat} {N : Int} {l : List S92} (h : GrowG W w bg N l) {A : Option Addr} {n : Nat} {xs : List α} (hC : Kd.C d B A n xs) (hB : Below B.heap.size B W) (hbg : B.heap.size ≤ bg) : Kd.C d w A n xs :=
 Kd.C_below hC (hB.trans (h.bel.out hB.size (fun k hk => by omega)))
set_option maxHeartbeats 1600000 in
set_option maxRecDepth 100000 in
theorem turns_add.calls {W w : World} {bg : Nat} {N : Int} {l : List S92} (h : GrowG W w bg N l) (hl : l.length ≤ 10000000) (u v : Int) :
  Calls Try.prog 42 #[.int .i64 u, .int .i64 v, .pointer (some ⟨bg, 0, none⟩)] w fun e w' => e = .returned (.tuple #[]) ∧ GrowG W w' bg N (l ++ [⟨u, v⟩]) ∧ ∀ b t cs, b ≠ bg → t ≠ 92 → w.heap[b]? = some (.cells cs t (0, 0)) → w'.heap[b]? = some (.cells cs t (0, 0)) := by
 obtain ⟨hlt, hbel, va, hb, hr⟩ := h
 obtain ⟨A, c, rfl⟩ := Kd.R_slice hr
 have HBEL := Aside0.mk hbel
 have HB := Aside0.mk hb
 have HR := Aside0.mk hr
 have hs := hbel.size
 have hgw := blk_lt hb
 have c1 : w.cell? ⟨bg, 1, none⟩ = some (.slice A l.length c) := blk_cell HB.out 1
 clear hbel hb hr
 go_enter Try.func42, Try.ntmps42
 go_wp2_with (
  refine Kd.R_append k92 (w0 := w) W.heap.size (by rfl) (.tmp 6) (.tmp 10) 49 92 (.agg #[(.int .i64 0), (.int .i64 0)]) 16 rfl Try.underlying49 info92 rfl (by decide) (by decide) (.slice A l.length c) l ⟨u, v⟩ [.int .i64 u, .int .i64 v] (fun k => k ≠ bg) (fun _ => False) rfl rfl ?aP (fun _ hk => hk.elim) ?aF ?aO ?aB ?aS ?aL ?_
  (case aP => exact k92_mkM _ _ _ _)
  (case aF => exact (fun k hk => by omega))
  (case aO => exact HR.out)
  (case aB => exact Below.refl _ _)
  (case aS => exact hs)
  (case aL => omega)
  intro v1 w1 ho1 hb1 hg1 hat1
  obtain ⟨A1, c1', rfl⟩ := Kd.R_slice ho1
  have HR1 := Aside0.mk ho1
  have HG1 := Aside0.mk hg1
  have hne : some bg ≠ (Value.slice A l.length c).ownBlock := fun e => HR.out.1 bg e.symm rfl
  have HB1 := Aside0.mk ((hg1.block bg hgw hne).trans HB.out)
  have HL1 := Aside0.mk (HBEL.out.grown hg1 (fun k hk => .inr (Kd.R_base HR.out k hk)))
  have c1b : w1.cell? ⟨bg, 1, none⟩ = some (.slice A l.length c) := blk_cell HB1.out 1
  have f1b : w1.frozen? ⟨bg, 1, none⟩ = false := blk_frozen HB1.out 1
  have HO1 : Aside0 (∀ b t cs, b ≠ bg → t ≠ 92 → w.heap[b]? = some (.cells cs t (0, 0)) → w1.heap[b]? = some (.cells cs t (0, 0))) := ⟨fun b t cs _ ht hb => (hg1.block b (blk_lt hb) (Kd.R_ne HR.out hb (fun e => ht e.symm))).trans hb⟩
  clear ho1 hb1 hg1 hat1 hne)
 have HE : Aside0 (GrowG W (w1.setCell ⟨bg, 1, none⟩ (.slice A1 (l.length + 1) c1')) bg N (l ++ [⟨u, v⟩])) := ⟨by
  refine ⟨hlt, HL1.out.setCell _ _ (.inl rfl), _, blk_put (cs' := #[.int .i64 N, .slice A1 (l.length + 1) c1']) HB1.out 1 _ rfl, ?_⟩
  have h1 := HR1.out
  rw [List.length_append] at h1
  exact Kd.R_far (p := ⟨bg, 1, none⟩) h1 (fun k hk => hk) _⟩
 go_end0
 exact ⟨rfl, HE.out, fun b t cs hb ht h => (Below.heap_setCell w1 ⟨bg, 1, none⟩ _ b hb).trans (HO1.out b t cs hb ht h)⟩
/-! ### Leaving -/
theorem rw_at {w : World} {A : Option Addr} {n : Nat} {xs : List (List Int)} (h : Kd.C (Kd.slice 3 (Kd.int .i64)) w A n xs) {i : Nat} (hi : i < n) : ∃ b o, A = some ⟨b, o, none⟩ := by
 obtain ⟨ad, A5, c5, hA, hx, _⟩ := at_L6 h 0 (by omega) (by omega)
 have hsp := cell_spot (ad := ad) (by exact hx)
 obtain ⟨b, o, s⟩ := ad
 injection hsp with _ _ hes
 subst hes
 exact ⟨b, o, hA⟩
theorem rw_get {w : World} {b o : Nat} {n : Nat} {xs : List (List Int)} (h : Kd.C (Kd.slice 3 (Kd.int .i64)) w (some ⟨b, o, none⟩) n xs) {i : Nat} (hi : i < n) : ∃ A c, w.cell? ⟨b, o + i, none⟩ = some (.slice A (rd_L6 xs (i : Int)).length c) ∧ (rd_L6 xs (i : Int)).length ≤ c ∧ Kd.C (Kd.int .i64) w A (rd_L6 xs (i : Int)).length (rd_L6 xs (i : Int)) := by
 obtain ⟨ad, A5, c5, hA, x0, hl, hC⟩ := at_L6 h (i : Int) (by omega) (by omega)
 injection hA with hA
 subst hA
 simp only [Addr.add_lit, Int.toNat_natCast] at x0
 exact ⟨A5, c5, x0, hl, hC⟩
def leavA (pcs : List S58) (v k : Nat) : List Int := ((List.range k).filter (fun i : Nat => decide ((rd_T58 pcs (i : Int)).f0 = (v : Int)))).map (fun i : Nat => (i : Int))
def rowsTo (n : Nat) (pcs : List S58) (k : Nat) : List (List Int) := (List.range n).map (fun v => leavA pcs v k)
theorem leavA_succ (pcs : List S58) (v k : Nat) : leavA pcs v (k + 1) = if (rd_T58 pcs (k : Int)).f0 = (v : Int) then leavA pcs v k ++ [(k : Int)] else leavA pcs v k := by
 unfold leavA
 rw [List.range_succ, List.filter_append, List.map_append]
 by_cases h : (rd_T58 pcs (k : Int)).f0 = (v : Int)
 ·simp [h]
 ·simp [h]
theorem leavA_len (pcs : List S58) (v k : Nat) : (leavA pcs v k).length ≤ k := by
 unfold leavA
 rw [List.length_map]
 have := List.length_filter_le (fun i : Nat => decide ((rd_T58 pcs (i : Int)).f0 = (v : Int))) (List.range k)
 simpa using this
theorem leavA_mem {pcs : List S58} {v k : Nat} {x : Int} : x ∈ leavA pcs v k ↔ ∃ i : Nat, i < k ∧ (rd_T58 pcs (i : Int)).f0 = (v : Int) ∧ x = (i : Int) := by
 unfold leavA
 simp only [List.mem_map, List.mem_filter, List.mem_range, decide_eq_true_eq]
 constructor
 ·rintro ⟨i, ⟨h1, h2⟩, rfl⟩
  exact ⟨i, h1, h2, rfl⟩
 ·rintro ⟨i, h1, h2, rfl⟩
  exact ⟨i, ⟨h1, h2⟩, rfl⟩
theorem rowsTo_len (n : Nat) (pcs : List S58) (k : Nat) : (rowsTo n pcs k).length = n := by unfold rowsTo; simp
theorem rowsTo_get {n : Nat} (pcs : List S58) (k : Nat) {v : Nat} (hv : v < n) : rd_L6 (rowsTo n pcs k) (v : Int) = leavA pcs v k := by
 unfold rd_L6 rowsTo
 simp [hv]
theorem rowsTo_succ {n : Nat} (pcs : List S58) (k : Nat) {v : Nat} (hv : v < n) (h : (rd_T58 pcs (k : Int)).f0 = (v : Int)) : rowsTo n pcs (k + 1) = (rowsTo n pcs k).set v (leavA pcs v k ++ [(k : Int)]) := by
 unfold rowsTo
 apply List.ext_getElem
 ·simp
 ·intro i h1 h2
  simp only [List.getElem_map, List.getElem_range, List.getElem_set]
  rw [leavA_succ]
  by_cases e : v = i
  ·subst e
   rw [if_pos rfl, if_pos h]
  ·rw [if_neg e, if_neg (fun x => e (by omega))]
theorem leav_l0 (n : Nat) (pcs : List S58) (hs : pcs.length ≤ 1000000) (hp : ∀ i : Nat, i < pcs.length → 0 ≤ (rd_T58 pcs (i : Int)).f0 ∧ (rd_T58 pcs (i : Int)).f0 < (n : Int)) : ∀ d j : Nat, j + d = pcs.length → Ev (fun k => turns_leaving.l0 k (rowsTo n pcs j) pcs (pcs.length : Int) (j : Int)) (rowsTo n pcs pcs.length)
 | 0, j, h => by
  obtain rfl : j = pcs.length := by omega
  refine Ev.st1 fun k => ?_
  simp only [turns_leaving.l0]
  rw [if_neg (by omega)]
 | d + 1, j, h => by
  have ih := leav_l0 n pcs hs hp d (j + 1) (by omega)
  obtain ⟨h0, h1⟩ := hp j (by omega)
  obtain ⟨v, hv⟩ := Int.eq_ofNat_of_zero_le h0
  rw [hv] at h1
  have hvn : v < n := by omega
  rw [rowsTo_succ pcs j hvn hv] at ih
  have hl := leavA_len pcs v j
  refine Ev.step (fun k => ?_) ih
  simp only [turns_leaving.l0]
  rw [if_pos (by omega), if_pos (by omega), if_pos (by omega), hv, if_pos (by omega), if_pos (by rw [rowsTo_len]; omega), rowsTo_get pcs j hvn, if_pos (by omega), Int.toNat_natCast, wrap_up (by omega)]
theorem leav_ev (nodes : List Int) (pts : List S158) (pcs : List S58) (hn : nodes.length ≤ 1000000) (hs : pcs.length ≤ 1000000) (h : chk46 nodes pts pcs = 0) : Ev (fun k => turns_leaving.f k nodes pts pcs) (rowsTo nodes.length pcs pcs.length) := by
 unfold turns_leaving.f
 simp only [if_pos (show (0 : Int) ≤ (nodes.length : Int) by omega), Int.toNat_natCast, if_pos (show nodes.length ≤ 11728124029610 by omega)]
 have hp : ∀ i : Nat, i < pcs.length → 0 ≤ (rd_T58 pcs (i : Int)).f0 ∧ (rd_T58 pcs (i : Int)).f0 < (nodes.length : Int) := fun i hi => by
  have := chk46_ok h _ (rd_mem hi)
  unfold pcBad at this
  omega
 have h0 : List.replicate nodes.length ([] : List Int) = rowsTo nodes.length pcs 0 := by
  unfold rowsTo leavA
  apply List.ext_getElem
  ·simp
  ·intro i h1 h2
   simp
 rw [h0]
 exact leav_l0 nodes.length pcs hs hp pcs.length 0 (by omega)
theorem cell_same {w w1 : World} {b o : Nat} (h : w.heap[b]? = w1.heap[b]?) : w.cell? ⟨b, o, none⟩ = w1.cell? ⟨b, o, none⟩ := by
 unfold World.cell?
 simp only [h]
theorem rows_at {w1 : World} {bg v base rb ro rc : Nat} {rows : List (List Int)} {row : List Int} (h : Kd.R (Kd.slice 3 (Kd.int .i64)) 33 w1 base (fun k => k < w1.heap.size ∧ k ≠ bg) (.slice (some ⟨rb, ro, none⟩) rows.length rc) rows) (hv : v < rows.length) (hrow : rd_L6 rows (v : Int) = row) :
  ∃ qA qc, row.length ≤ qc ∧ ∀ w N l, GrowG w1 w bg N l → w.cell? ⟨rb, ro + v, none⟩ = some (.slice qA row.length qc) ∧ Kd.C (Kd.int .i64) w qA row.length row := by
 obtain ⟨qA, qc, q0, hl, _⟩ := rw_get (Kd.R_reads' h).2.2 hv
 rw [hrow] at q0 hl
 refine ⟨qA, qc, hl, fun w N l hg => ?_⟩
 have hb := h.1 rb rfl
 have hc : w.cell? ⟨rb, ro + v, none⟩ = some (.slice qA row.length qc) := (cell_same (hg.bel.block rb hb.1 hb.2)).trans q0
 obtain ⟨qA', qc', q0', _, hC⟩ := rw_get (Kd.R_reads' (Kd.R_step h (fun q hq _ => hg.bel.block q hq.1 hq.2))).2.2 hv
 rw [hrow] at q0' hC
 rw [hc] at q0'
 injection q0' with e
 injection e with e1 _ _
 subst e1
 exact ⟨hc, hC⟩
def srcL (n : Nat) (pcs : List S58) (k : Nat) : List S92 := (List.range k).map (fun b : Nat => ⟨(n : Int) + (rd_T58 pcs (b : Int)).f0, (b : Int)⟩)
def midP (nodes : List Int) (pcs : List S58) (l : List S42) (row : List Int) (a : Nat) (j : Nat) : List S92 := ((row.take j).filter (fun b => permB nodes pcs l row (a : Int) b)).map (fun b => ⟨(a : Int), b⟩)
def rowOf (pcs : List S58) (a : Nat) : List Int := leavA pcs (rd_T58 pcs (a : Int)).f1.toNat pcs.length
def midL (nodes : List Int) (pcs : List S58) (l : List S42) (k : Nat) : List S92 := (List.range k).flatMap (fun a => midP nodes pcs l (rowOf pcs a) a (rowOf pcs a).length)
def tgtL (n m : Nat) (pcs : List S58) (k : Nat) : List S92 := (List.range k).map (fun a : Nat => ⟨(a : Int), (n : Int) + (m : Int) + (rd_T58 pcs (a : Int)).f1⟩)
def expL (nodes : List Int) (pcs : List S58) (l : List S42) : List S92 := srcL pcs.length pcs pcs.length ++ midL nodes pcs l pcs.length ++ tgtL pcs.length nodes.length pcs pcs.length
theorem srcL_succ (n : Nat) (pcs : List S58) (k : Nat) : srcL n pcs (k + 1) = srcL n pcs k ++ [⟨(n : Int) + (rd_T58 pcs (k : Int)).f0, (k : Int)⟩] := by
 unfold srcL
 rw [List.range_succ, List.map_append]
 rfl
theorem tgtL_succ (n m : Nat) (pcs : List S58) (k : Nat) : tgtL n m pcs (k + 1) = tgtL n m pcs k ++ [⟨(k : Int), (n : Int) + (m : Int) + (rd_T58 pcs (k : Int)).f1⟩] := by
 unfold tgtL
 rw [List.range_succ, List.map_append]
 rfl
theorem midL_succ (nodes : List Int) (pcs : List S58) (l : List S42) (k : Nat) : midL nodes pcs l (k + 1) = midL nodes pcs l k ++ midP nodes pcs l (rowOf pcs k) k (rowOf pcs k).length := by
 unfold midL
 rw [List.range_succ, List.flatMap_append]
 simp
theorem midP_yes {nodes : List Int} {pcs : List S58} {l : List S42} {row : List Int} {a j : Nat} (hj : j < row.length) (h : permB nodes pcs l row (a : Int) row[j] = true) : midP nodes pcs l row a (j + 1) = midP nodes pcs l row a j ++ [⟨(a : Int), row[j]⟩] := by
 unfold midP
 rw [List.take_succ_eq_append_getElem hj, List.filter_append, List.map_append]
 simp [h]
theorem midP_no {nodes : List Int} {pcs : List S58} {l : List S42} {row : List Int} {a j : Nat} (hj : j < row.length) (h : permB nodes pcs l row (a : Int) row[j] = false) : midP nodes pcs l row a (j + 1) = midP nodes pcs l row a j := by
 unfold midP
 rw [List.take_succ_eq_append_getElem hj, List.filter_append, List.map_append]
 simp [h]
theorem srcL_len (n : Nat) (pcs : List S58) (k : Nat) : (srcL n pcs k).length = k := by unfold srcL; simp
theorem tgtL_len (n m : Nat) (pcs : List S58) (k : Nat) : (tgtL n m pcs k).length = k := by unfold tgtL; simp
theorem midP_len (nodes : List Int) (pcs : List S58) (l : List S42) (row : List Int) (a j : Nat) : (midP nodes pcs l row a j).length ≤ row.length := by
 unfold midP
 rw [List.length_map]
 exact Nat.le_trans (List.length_filter_le _ _) (by rw [List.length_take]; omega)
theorem midL_len (nodes : List Int) (pcs : List S58) (l : List S42) : ∀ k, (midL nodes pcs l k).length ≤ k * pcs.length
 | 0 => by simp [midL]
 | k + 1 => by
  have ih := midL_len nodes pcs l k
  have h1 := midP_len nodes pcs l (rowOf pcs k) k (rowOf pcs k).length
  have h2 := leavA_len pcs (rd_T58 pcs (k : Int)).f1.toNat pcs.length
  rw [midL_succ, List.length_append, Nat.succ_mul]
  unfold rowOf at h1
  unfold rowOf
  omega
def turns_Expand.f (l0_0 : List Int) (l0_1 : List S158) (l0_2 : List S58) (l1 : List S42) : Option (Int × List S92) :=
 if l0_0.length ≤ 1000 ∧ l0_2.length ≤ 1000 then (if chk46 l0_0 l0_1 l0_2 = 0 then some ((l0_2.length : Int) + 2 * (l0_0.length : Int), expL l0_0 l0_2 l1) else some (0, [])) else none
set_option maxHeartbeats 12800000 in
set_option maxRecDepth 100000 in
theorem turns_Expand.calls (A0_0 : Option Addr) (c0_0 : Nat) (l0_0 : List Int) (A0_1 : Option Addr) (c0_1 : Nat) (l0_1 : List S158) (A0_2 : Option Addr) (c0_2 : Nat) (l0_2 : List S58) (A1 : Option Addr) (c1 : Nat) (l1 : List S42) (r1 : Int) (r2 : List S92) (w : World) (hr0_0 : Kd.C (Kd.int .i64) w A0_0 l0_0.length l0_0) (hc0_0 : l0_0.length ≤ c0_0) (hr0_1 : Kd.C k158 w A0_1 l0_1.length l0_1) (hc0_1 : l0_1.length ≤ c0_1) (hr0_2 : Kd.C k58 w A0_2 l0_2.length l0_2) (hc0_2 : l0_2.length ≤ c0_2) (hr1 : Kd.C k42 w A1 l1.length l1) (hc1 : l1.length ≤ c1)
  (h : turns_Expand.f l0_0 l0_1 l0_2 l1 = some (r1, r2)) :
  Calls Try.prog 23 #[.agg #[.slice A0_0 l0_0.length c0_0, .slice A0_1 l0_1.length c0_1, .slice A0_2 l0_2.length c0_2], .slice A1 l1.length c1] w fun e w' => ∃ v1_ : Value, e = .returned (.agg #[.int .i64 r1, v1_]) ∧ Kd.R k92 92 w' w.heap.size (fun _ => True) v1_ r2 ∧ Below w.heap.size w w' := by
 unfold turns_Expand.f at h
 split at h
 rotate_left
 ·cases h
 rename_i hok
 obtain ⟨hnl, hpl⟩ := hok
 obtain ⟨kc, hkc⟩ := road_ev l0_0 l0_1 l0_2 (by omega) (by omega)
 have HKC := Aside0.mk (hkc kc (Nat.le_refl _))
 have HLV := Aside0.mk (fun (h : chk46 l0_0 l0_1 l0_2 = 0) => leav_ev l0_0 l0_1 l0_2 (by omega) (by omega) h)
 have HN := Aside0.mk hr0_0
 have HPT := Aside0.mk hr0_1
 have HPC := Aside0.mk hr0_2
 have HT := Aside0.mk hr1
 have HNC := Aside0.mk hc0_0
 have HPTC := Aside0.mk hc0_1
 have HPCC := Aside0.mk hc0_2
 have HTC := Aside0.mk hc1
 have H := Aside0.mk h
 clear hr0_0 hc0_0 hr0_1 hc0_1 hr0_2 hc0_2 hr1 hc1 h hkc
 go_enter Try.func23, Try.ntmps23
 go_wp2_with (fail)
 have HB5 := Aside0.mk (blk_alloc (heap_alloc_new w (Obj.cells #[.slice A0_0 l0_0.length c0_0, .slice A0_1 l0_1.length c0_1, .slice A0_2 l0_2.length c0_2] 37)) (Obj.cells #[.int .i64 0, .slice none 0 0] 51))
 have HB4 := Aside0.mk (heap_alloc_new (w.alloc (Obj.cells #[.slice A0_0 l0_0.length c0_0, .slice A0_1 l0_1.length c0_1, .slice A0_2 l0_2.length c0_2] 37)) (Obj.cells #[.int .i64 0, .slice none 0 0] 51))
 rw [World.size_alloc] at HB4
 have HB := Aside0.mk (((Below.refl w.heap.size w).alloc (Nat.le_refl _) (Obj.cells #[.slice A0_0 l0_0.length c0_0, .slice A0_1 l0_1.length c0_1, .slice A0_2 l0_2.length c0_2] 37)).alloc (by rw [World.size_alloc]; omega) (Obj.cells #[.int .i64 0, .slice none 0 0] 51))
 generalize (w.alloc (Obj.cells #[.slice A0_0 l0_0.length c0_0, .slice A0_1 l0_1.length c0_1, .slice A0_2 l0_2.length c0_2] 37)).alloc (Obj.cells #[.int .i64 0, .slice none 0 0] 51) = wa at HB HB4 HB5 ⊢
 refine (roads_Check.calls kc A0_0 c0_0 l0_0 A0_1 c0_1 l0_1 A0_2 c0_2 l0_2 (chk46 l0_0 l0_1 l0_2) wa (Kd.C_below HN.out HB.out) HNC.out (Kd.C_below HPT.out HB.out) HPTC.out (Kd.C_below HPC.out HB.out) HPCC.out HKC.out).mono ?_
 rintro e wb ⟨rfl, hb1⟩
 replace HB4 := Aside0.mk (blk_below HB4.out hb1)
 replace HB5 := Aside0.mk (blk_below HB5.out hb1)
 replace HB := Aside0.mk (below_then HB.out HB.out.size hb1)
 clear hb1 HKC
 by_cases hck : chk46 l0_0 l0_1 l0_2 = 0
 rotate_left
 ·have HRF : Aside0 (r1 = 0 ∧ r2 = []) := ⟨by have h := H.out; rw [if_neg hck] at h; injection h with h; injection h with h1 h2; exact ⟨h1.symm, h2.symm⟩⟩
  generalize chk46 l0_0 l0_1 l0_2 = ck at hck ⊢
  have g1 : (ck == 0) = false := by simpa using hck
  have g2 : (ck != 0) = true := by simpa using hck
  have k0 : wb.cell? ⟨w.heap.size + 1, 0, none⟩ = some (.int .i64 0) := blk_cell HB4.out 0
  have k1 : wb.cell? ⟨w.heap.size + 1, 1, none⟩ = some (.slice none 0 0) := blk_cell HB4.out 1
  have f0 : wb.frozen? ⟨w.heap.size + 1, 0, none⟩ = false := blk_frozen HB4.out 0
  have f1 : wb.frozen? ⟨w.heap.size + 1, 1, none⟩ = false := blk_frozen HB4.out 1
  clear hck
  go_wp2_with (fail)
  refine bodyPost_ret (results_cell_row rfl _ _ (w.heap.size + 1) 51 #[.int .i64 0, .slice none 0 0] (0, 0) _ rfl (blk_put (cs' := #[.int .i64 0, .slice none 0 0]) (blk_put (cs' := #[.int .i64 0, .slice none 0 0]) HB4.out 0 _ rfl) 1 _ rfl) Try.underlying51 rfl (by kernel_rfl)) rfl ?_
  obtain ⟨rfl, rfl⟩ := HRF.out
  exact ⟨_, rfl, Kd.R_nil _ _ _ _ _, (HB.out.setCell (p := ⟨w.heap.size + 1, 0, none⟩) (by simp) _).setCell (p := ⟨w.heap.size + 1, 1, none⟩) (by simp) _⟩
 have HCK := Aside0.mk hck
 have HRR : Aside0 (r1 = (l0_2.length : Int) + 2 * (l0_0.length : Int) ∧ r2 = expL l0_0 l0_2 l1) := ⟨by have h := H.out; rw [if_pos hck] at h; injection h with h; injection h with h1 h2; exact ⟨h1.symm, h2.symm⟩⟩
 have HOK := Aside0.mk (chk46_ok hck)
 obtain ⟨kl, hkl⟩ := HLV.out hck
 have HKL := Aside0.mk (hkl kl (Nat.le_refl _))
 have d0 : wb.cell? ⟨w.heap.size, 0, none⟩ = some (.slice A0_0 l0_0.length c0_0) := blk_cell HB5.out 0
 have d1 : wb.cell? ⟨w.heap.size, 1, none⟩ = some (.slice A0_1 l0_1.length c0_1) := blk_cell HB5.out 1
 have d2 : wb.cell? ⟨w.heap.size, 2, none⟩ = some (.slice A0_2 l0_2.length c0_2) := blk_cell HB5.out 2
 rw [hck]
 clear hck hkl HLV H
 go_upto_region 3 with (fail)
 go_quiet (fail)
 have hdn : Below wb.heap.size wb (wb.drewN nq) := byB (Below.refl wb.heap.size wb)
 replace HB4 := Aside0.mk (blk_below HB4.out hdn)
 replace HB5 := Aside0.mk (blk_below HB5.out hdn)
 replace HB := Aside0.mk (below_then HB.out HB.out.size hdn)
 replace d0 := pw_cell_below hdn d0
 replace d1 := pw_cell_below hdn d1
 replace d2 := pw_cell_below hdn d2
 clear hdn
 generalize wb.drewN nq = wc at HB4 HB5 HB d0 d1 d2 ⊢
 have hlt5 : w.heap.size < wc.heap.size := blk_lt HB5.out
 go_upto_region 6 with (fail)
 have hal : Below wc.heap.size wc (wc.alloc (Obj.cells #[.int .i64 ((l0_2.length : Int) + 2 * (l0_0.length : Int)), .slice none 0 0] 51)) := (Below.refl _ _).alloc (Nat.le_refl _) _
 have HBG := Aside0.mk (heap_alloc_new wc (Obj.cells #[.int .i64 ((l0_2.length : Int) + 2 * (l0_0.length : Int)), .slice none 0 0] 51))
 have HG4 : Aside0 (w.heap.size + 1 < wc.heap.size) := ⟨blk_lt HB4.out⟩
 replace HB4 := Aside0.mk (blk_below HB4.out hal)
 replace HB5 := Aside0.mk (blk_below HB5.out hal)
 replace HB := Aside0.mk (below_then HB.out HB.out.size hal)
 replace d0 := pw_cell_below hal d0
 replace d1 := pw_cell_below hal d1
 replace d2 := pw_cell_below hal d2
 clear hal hlt5
 generalize wc.alloc (Obj.cells #[.int .i64 ((l0_2.length : Int) + 2 * (l0_0.length : Int)), .slice none 0 0] 51) = wd at HBG HB4 HB5 HB d0 d1 d2 ⊢
 obtain ⟨bg, HBGE⟩ : ∃ b, Aside0 (wc.heap.size = b) := ⟨_, ⟨rfl⟩⟩
 rw [HBGE.out] at HBG HG4 ⊢
 clear HBGE
 go_wp2_with (fail)
 refine (turns_leaving.calls kl A0_0 c0_0 l0_0 A0_1 c0_1 l0_1 A0_2 c0_2 l0_2 (rowsTo l0_0.length l0_2 l0_2.length) wd (Kd.C_below HN.out HB.out) HNC.out (Kd.C_below HPT.out HB.out) HPTC.out (Kd.C_below HPC.out HB.out) HPCC.out HKL.out).mono ?_
 rintro e w1 ⟨vr, rfl, hS, hb1⟩
 obtain ⟨RA, rc, rfl⟩ := Kd.S_slice hS
 replace HBG := Aside0.mk (blk_below HBG.out hb1)
 replace HB4 := Aside0.mk (blk_below HB4.out hb1)
 replace HB5 := Aside0.mk (blk_below HB5.out hb1)
 replace HB := Aside0.mk (below_then HB.out HB.out.size hb1)
 have HRW : Aside0 (Kd.R (Kd.slice 3 (Kd.int .i64)) 33 w1 wd.heap.size (fun k => k < w1.heap.size ∧ k ≠ bg) (.slice RA (rowsTo l0_0.length l0_2 l0_2.length).length rc) (rowsTo l0_0.length l0_2 l0_2.length)) := ⟨Kd.R_mono (Kd.R_bound (Kd.R_types (Kd.S_R hS) HBG.out (by decide))) (fun k hk => ⟨hk.2.2.1, hk.1.2⟩)⟩
 have HGR : Aside0 (GrowG w1 w1 bg ((l0_2.length : Int) + 2 * (l0_0.length : Int)) (srcL l0_2.length l0_2 0)) := ⟨⟨blk_lt HBG.out, Bel.refl _ _, .slice none 0 0, HBG.out, Kd.R_nil _ _ _ _ _⟩⟩
 have HBGL : Aside0 (w.heap.size + 1 < bg) := HG4
 clear hS hb1 HBG HG4 HKL d0 d1
 replace d2 : w1.cell? ⟨w.heap.size, 2, none⟩ = some (.slice A0_2 l0_2.length c0_2) := blk_cell HB5.out 2
 go_wp2_with (fail)
 go_loopw [39] (fun i wr => ∃ k : Nat, i = .int .i64 (k : Int) ∧ k ≤ l0_2.length ∧ Aside0 (GrowG w1 wr bg ((l0_2.length : Int) + 2 * (l0_0.length : Int)) (srcL l0_2.length l0_2 k))) (fun i _ => l0_2.length - (intOf i).toNat)
 case atStart => exact ⟨0, rfl, Nat.zero_le _, HGR⟩
 case round =>
  clear HGR d2
  obtain ⟨k, rfl, hk, HGR⟩ := hrel
  by_cases hkl : k < l0_2.length
  ·have HPW := Aside0.mk (HGR.out.C HPC.out HB.out (by have := HBGL.out; omega))
   obtain ⟨pb, po, rfl⟩ := pc_at HPW.out hkl
   obtain ⟨xA, xc, hxl, hxC, z0, z1, z2, z3, z4, z5, z6, z7⟩ := pc_get HPW.out hkl
   have HXN := Aside0.mk (HOK.out _ (rd_mem hkl))
   obtain ⟨x, HX⟩ : ∃ x, Aside0 (rd_T58 l0_2 (k : Int) = x) := ⟨_, ⟨rfl⟩⟩
   rw [HX.out] at z0 z1 z2 z3 z4 z5 z6 z7 HXN
   have hki : (k : Int) < (l0_2.length : Int) := by omega
   have hx0 : 0 ≤ x.f0 ∧ x.f0 < (l0_0.length : Int) := by have := HXN.out; unfold pcBad at this; omega
   have hx1 : 0 ≤ x.f1 ∧ x.f1 < (l0_0.length : Int) := by have := HXN.out; unfold pcBad at this; omega
   obtain ⟨hx00, hx01⟩ := hx0
   obtain ⟨hx10, hx11⟩ := hx1
   clear hxl hxC
   have HSL := Aside0.mk (srcL_len l0_2.length l0_2 k)
   go_wp2_with (fail)
   have hba : Below wr.heap.size wr (wr.alloc (Obj.cells #[.int .i64 x.f0, .int .i64 x.f1, .int .i64 x.f2, .int .i64 x.f3, .int .i64 x.f4, .slice xA x.f5.f0.length xc, .int .i64 x.f5.f1, .int .i64 x.f5.f2] 58)) := (Below.refl _ _).alloc (Nat.le_refl _) _
   have HG13 : Aside0 (wr.heap.size ≠ bg) := ⟨by have h1 := HGR.out.lt; have h2 := HGR.out.bel.size; omega⟩
   replace HGR := Aside0.mk (HGR.out.below hba)
   have HK13 := Aside0.mk (heap_alloc_new wr (Obj.cells #[.int .i64 x.f0, .int .i64 x.f1, .int .i64 x.f2, .int .i64 x.f3, .int .i64 x.f4, .slice xA x.f5.f0.length xc, .int .i64 x.f5.f1, .int .i64 x.f5.f2] 58))
   clear hba z0 z1 z2 z3 z4 z5 z6 z7
   generalize wr.alloc (Obj.cells #[.int .i64 x.f0, .int .i64 x.f1, .int .i64 x.f2, .int .i64 x.f3, .int .i64 x.f4, .slice xA x.f5.f0.length xc, .int .i64 x.f5.f1, .int .i64 x.f5.f2] 58) = w2 at HGR HK13 ⊢
   obtain ⟨b13, HE13⟩ : ∃ b, Aside0 (wr.heap.size = b) := ⟨_, ⟨rfl⟩⟩
   rw [HE13.out] at HK13 HG13 ⊢
   refine (turns_add.calls HGR.out (by have := HSL.out; omega) ((l0_2.length : Int) + x.f0) (k : Int)).mono ?_
   rintro e w3 ⟨rfl, hg, _⟩
   have HG3 := Aside0.mk hg
   clear hg
   go_wp2_with (fail)
   go_roundw
   case rel => exact ⟨k + 1, by go_num, by omega, ⟨by rw [srcL_succ, HX.out]; exact HG3.out⟩⟩
   case measure => simp [intOf]; omega
  ·obtain rfl : k = l0_2.length := by omega
   clear hk hkl
   have d2 : wr.cell? ⟨w.heap.size, 2, none⟩ = some (.slice A0_2 l0_2.length c0_2) := blk_cell (HGR.out.blk HB5.out (by have := HBGL.out; omega)) 2
   replace HGR : Aside0 (GrowG w1 wr bg ((l0_2.length : Int) + 2 * (l0_0.length : Int)) (srcL l0_2.length l0_2 l0_2.length ++ midL l0_0 l0_2 l1 0)) := ⟨by rw [show midL l0_0 l0_2 l1 0 = [] from rfl, List.append_nil]; exact HGR.out⟩
   go_wp2_with (fail)
   obtain ⟨wy, hwy⟩ : ∃ q, q = wr := ⟨_, rfl⟩
   subst hwy
   clear d2
   go_loopw [55] (fun i wr => ∃ k : Nat, i = .int .i64 (k : Int) ∧ k ≤ l0_2.length ∧ Aside0 (GrowG w1 wr bg ((l0_2.length : Int) + 2 * (l0_0.length : Int)) (srcL l0_2.length l0_2 l0_2.length ++ midL l0_0 l0_2 l1 k))) (fun i _ => l0_2.length - (intOf i).toNat)
   case atStart => exact ⟨0, rfl, Nat.zero_le _, HGR⟩
   case round =>
    clear HGR
    obtain ⟨k, rfl, hk, HGR⟩ := hrel
    by_cases hkl : k < l0_2.length
    ·have HPW := Aside0.mk (HGR.out.C HPC.out HB.out (by have := HBGL.out; omega))
     obtain ⟨pb, po, rfl⟩ := pc_at HPW.out hkl
     obtain ⟨xA, xc, hxl, hxC, z0, z1, z2, z3, z4, z5, z6, z7⟩ := pc_get HPW.out hkl
     have HXN := Aside0.mk (HOK.out _ (rd_mem hkl))
     obtain ⟨x, HX⟩ : ∃ x, Aside0 (rd_T58 l0_2 (k : Int) = x) := ⟨_, ⟨rfl⟩⟩
     rw [HX.out] at z0 z1 z2 z3 z4 z5 z6 z7 HXN
     have hki : (k : Int) < (l0_2.length : Int) := by omega
     have hx0 : 0 ≤ x.f0 ∧ x.f0 < (l0_0.length : Int) := by have := HXN.out; unfold pcBad at this; omega
     have hx1 : 0 ≤ x.f1 ∧ x.f1 < (l0_0.length : Int) := by have := HXN.out; unfold pcBad at this; omega
     obtain ⟨hx00, hx01⟩ := hx0
     obtain ⟨hx10, hx11⟩ := hx1
     clear hxl hxC
     obtain ⟨v, hv⟩ := Int.eq_ofNat_of_zero_le hx10
     rw [hv] at hx10 hx11 z1
     have HV := Aside0.mk hv
     have hvn : v < l0_0.length := by omega
     have HRL := Aside0.mk (rowsTo_len l0_0.length l0_2 l0_2.length)
     obtain ⟨rb, ro, rfl⟩ := rw_at (Kd.R_reads' HRW.out).2.2 (i := v) (by have := HRL.out; omega)
     have HROW : Aside0 (rowOf l0_2 k = leavA l0_2 v l0_2.length) := ⟨by unfold rowOf; rw [HX.out, HV.out, Int.toNat_natCast]⟩
     obtain ⟨row, HRE⟩ : ∃ row, Aside0 (leavA l0_2 v l0_2.length = row) := ⟨_, ⟨rfl⟩⟩
     rw [HRE.out] at HROW
     obtain ⟨qA, qc, hql, hrows⟩ := rows_at HRW.out (v := v) (row := row) (by have := HRL.out; omega) ((rowsTo_get l0_2 l0_2.length hvn).trans HRE.out)
     have HROWS := Aside0.mk hrows
     have HQL := Aside0.mk hql
     have HROK : Aside0 (∀ i ∈ row, 0 ≤ i ∧ i < (l0_2.length : Int)) := ⟨fun i hi => by
      rw [← HRE.out] at hi
      obtain ⟨j, hj, _, rfl⟩ := leavA_mem.1 hi
      omega⟩
     have hrl : row.length ≤ l0_2.length := by rw [← HRE.out]; exact leavA_len _ _ _
     obtain ⟨nr, HNR⟩ : ∃ nr, Aside0 ((rowsTo l0_0.length l0_2 l0_2.length).length = nr) := ⟨_, ⟨rfl⟩⟩
     have hvr : (v : Int) < (nr : Int) := by have h1 := HRL.out; have h2 := HNR.out; omega
     rw [HNR.out]
     have q0 := (HROWS.out _ _ _ HGR.out).1
     have hrb : rb < wr.heap.size := World.block_lt_of_cell? _ _ q0
     clear hql hrows hv
     go_wp2_with (fail)
     have hba : Below wr.heap.size wr (wr.alloc (Obj.cells #[.int .i64 x.f0, .int .i64 (v : Int), .int .i64 x.f2, .int .i64 x.f3, .int .i64 x.f4, .slice xA x.f5.f0.length xc, .int .i64 x.f5.f1, .int .i64 x.f5.f2] 58)) := (Below.refl _ _).alloc (Nat.le_refl _) _
     have HG13 : Aside0 (wr.heap.size ≠ bg) := ⟨by have h1 := HGR.out.lt; have h2 := HGR.out.bel.size; omega⟩
     replace HGR := Aside0.mk (HGR.out.below hba)
     have HK13 := Aside0.mk (heap_alloc_new wr (Obj.cells #[.int .i64 x.f0, .int .i64 (v : Int), .int .i64 x.f2, .int .i64 x.f3, .int .i64 x.f4, .slice xA x.f5.f0.length xc, .int .i64 x.f5.f1, .int .i64 x.f5.f2] 58))
     clear hba z0 z1 z2 z3 z4 z5 z6 z7 q0 hrb
     generalize wr.alloc (Obj.cells #[.int .i64 x.f0, .int .i64 (v : Int), .int .i64 x.f2, .int .i64 x.f3, .int .i64 x.f4, .slice xA x.f5.f0.length xc, .int .i64 x.f5.f1, .int .i64 x.f5.f2] 58) = w2 at HGR HK13 ⊢
     obtain ⟨b13, HE13⟩ : ∃ b, Aside0 (wr.heap.size = b) := ⟨_, ⟨rfl⟩⟩
     rw [HE13.out] at HK13 HG13 ⊢
     obtain ⟨wz, hwz⟩ : ∃ q, q = wr := ⟨_, rfl⟩
     subst hwz
     replace HGR : Aside0 (GrowG w1 w2 bg ((l0_2.length : Int) + 2 * (l0_0.length : Int)) (srcL l0_2.length l0_2 l0_2.length ++ midL l0_0 l0_2 l1 k ++ midP l0_0 l0_2 l1 row k 0)) := ⟨by rw [show midP l0_0 l0_2 l1 row k 0 = [] from rfl, List.append_nil]; exact HGR.out⟩
     go_loopw [66] (fun i wr => ∃ j : Nat, i = .int .i64 (j : Int) ∧ j ≤ row.length ∧ Aside0 (GrowG w1 wr bg ((l0_2.length : Int) + 2 * (l0_0.length : Int)) (srcL l0_2.length l0_2 l0_2.length ++ midL l0_0 l0_2 l1 k ++ midP l0_0 l0_2 l1 row k j)) ∧ Aside0 (wr.heap[b13]? = some (.cells #[.int .i64 x.f0, .int .i64 (v : Int), .int .i64 x.f2, .int .i64 x.f3, .int .i64 x.f4, .slice xA x.f5.f0.length xc, .int .i64 x.f5.f1, .int .i64 x.f5.f2] 58 (0, 0)))) (fun i _ => row.length - (intOf i).toNat)
     case atStart => exact ⟨0, rfl, Nat.zero_le _, HGR, HK13⟩
     case round =>
      clear HGR HK13
      obtain ⟨j, rfl, hj, HGR, HK13⟩ := hrel
      by_cases hjl : j < row.length
      ·obtain ⟨q0, hqC⟩ := HROWS.out _ _ _ HGR.out
       have HRI := Aside0.mk hqC
       clear hqC
       rcases ints_of_C HRI.out with ⟨hz, _⟩ | ⟨_, ib, io, hA, hce⟩
       ·omega
       subst hA
       have hci := hce j hjl
       have hmem : row.getD j 0 ∈ row := by rw [List.getD_eq_getElem?_getD, List.getElem?_eq_getElem hjl]; exact List.getElem_mem hjl
       obtain ⟨hi0, hi1⟩ := HROK.out _ hmem
       obtain ⟨b, hb⟩ := Int.eq_ofNat_of_zero_le hi0
       have HBE : Aside0 (row[j] = (b : Int)) := ⟨by rw [← hb, List.getD_eq_getElem?_getD, List.getElem?_eq_getElem hjl]; rfl⟩
       rw [hb] at hci hi1
       have hjr : (j : Int) < (row.length : Int) := by omega
       clear hce hmem hb hi0
       have d0 : wr.cell? ⟨w.heap.size, 0, none⟩ = some (.slice A0_0 l0_0.length c0_0) := blk_cell (HGR.out.blk HB5.out (by have := HBGL.out; omega)) 0
       have d1 : wr.cell? ⟨w.heap.size, 1, none⟩ = some (.slice A0_1 l0_1.length c0_1) := blk_cell (HGR.out.blk HB5.out (by have := HBGL.out; omega)) 1
       have d2 : wr.cell? ⟨w.heap.size, 2, none⟩ = some (.slice (some ⟨pb, po, none⟩) l0_2.length c0_2) := blk_cell (HGR.out.blk HB5.out (by have := HBGL.out; omega)) 2
       have x1 : wr.cell? ⟨b13, 1, none⟩ = some (.int .i64 (v : Int)) := blk_cell HK13.out 1
       have HN1 := Aside0.mk (HGR.out.C HN.out HB.out (by have := HBGL.out; omega))
       have HPT1 := Aside0.mk (HGR.out.C HPT.out HB.out (by have := HBGL.out; omega))
       have HPC1 := Aside0.mk (HGR.out.C HPC.out HB.out (by have := HBGL.out; omega))
       have HT1 := Aside0.mk (HGR.out.C HT.out HB.out (by have := HBGL.out; omega))
       have HPOK : Aside0 (turns_permitted.f l0_0 l0_1 l0_2 l1 row (k : Int) (b : Int) = some (permB l0_0 l0_2 l1 row (k : Int) (b : Int))) := ⟨by
        unfold turns_permitted.f
        refine if_pos ⟨by omega, by omega, by omega, by omega, HROK.out, ?_, ?_⟩
        ·rw [HX.out, HV.out]; omega
        ·rw [HX.out, HV.out]; omega⟩
       have HMY := Aside0.mk (fun (h : permB l0_0 l0_2 l1 row (k : Int) (b : Int) = true) => (midP_yes (nodes := l0_0) (pcs := l0_2) (l := l1) (a := k) hjl (by rw [HBE.out]; exact h)).trans (by rw [HBE.out]))
       have HMN := Aside0.mk (fun (h : permB l0_0 l0_2 l1 row (k : Int) (b : Int) = false) => midP_no (nodes := l0_0) (pcs := l0_2) (l := l1) (a := k) hjl (by rw [HBE.out]; exact h))
       go_upto_region 18 with (fail)
       refine s_ (fun w' => Below wr.heap.size wr w') [] (below_drew (Below.refl _ _)) (fun hHeld => ?_)
       refine t1_ 0 70 hHeld ?_ (hy := Or.inl ⟨by rfl, by rintro w' s0; have g0 := pw_cell_below s0 d0; have g1 := pw_cell_below s0 d1; have g2 := pw_cell_below s0 d2; go_simp; with_reducible rfl⟩)
       refine p_ 1 71 ?_
       refine p_ 2 72 ?_
       refine p_ 3 73 ?_
       refine t1_ 4 74 hHeld ?_ (hy := Or.inl ⟨by rfl, by rintro w' s0; have g0 := pw_cell_below s0 x1; go_simp; with_reducible rfl⟩)
       refine p_ 5 75 ?_
       refine t1_ 6 76 hHeld ?_ (hy := Or.inl ⟨by rfl, by rintro w' s0; have g0 := pw_cell_below s0 q0; go_simp; with_reducible rfl⟩)
       refine p_ 7 77 ?_
       refine p_ 8 78 ?_
       refine o_ 9 79 (fun K hK => ?_)
       refine goes_ Try.func37 (by kernel_rfl) rfl #[.agg #[.slice A0_0 l0_0.length c0_0, .slice A0_1 l0_1.length c0_1, .slice (some ⟨pb, po, none⟩) l0_2.length c0_2], .slice A1 l1.length c1, .slice (some ⟨ib, io, none⟩) row.length qc, .int .i64 (k : Int), .int .i64 (b : Int)] (by rfl) rfl rfl byL ?_
       refine (turns_permitted.calls A0_0 c0_0 l0_0 A0_1 c0_1 l0_1 _ c0_2 l0_2 A1 c1 l1 _ qc row (k : Int) (b : Int) (permB l0_0 l0_2 l1 row (k : Int) (b : Int)) _ (Kd.C_below HN1.out hHeld) HNC.out (Kd.C_below HPT1.out hHeld) HPTC.out (Kd.C_below HPC1.out hHeld) HPCC.out (Kd.C_below HT1.out hHeld) HTC.out (Kd.C_below HRI.out hHeld) HQL.out HPOK.out).mono ?_
       rintro e w4 ⟨rfl, hb4⟩
       refine ⟨_, rfl, ?_⟩
       have hb5 := below_then hHeld hHeld.size hb4
       refine hK.out _ _ hb5 (fun hHeld => ?_)
       replace HGR := Aside0.mk (HGR.out.below hb5)
       replace HK13 := Aside0.mk (blk_below HK13.out hb5)
       clear hK K hb4 hb5 q0 hci d0 d1 d2 x1 HN1 HPT1 HPC1 HT1 HPOK HRI
       refine n_ 79 ?_
       refine d_ ?_
       clear hHeld
       generalize permB l0_0 l0_2 l1 row (k : Int) (b : Int) = bb at HMY HMN ⊢
       cases bb with
       | true =>
        have HMZ := Aside0.mk (HMY.out rfl)
        clear HMY HMN
        have HLEN : Aside0 ((srcL l0_2.length l0_2 l0_2.length ++ midL l0_0 l0_2 l1 k ++ midP l0_0 l0_2 l1 row k j).length ≤ 2000000) := ⟨by
         rw [List.length_append, List.length_append, srcL_len]
         have h1 := midL_len l0_0 l0_2 l1 k
         have h2 : k * l0_2.length ≤ 1000 * 1000 := Nat.mul_le_mul (by omega) hpl
         have h3 := midP_len l0_0 l0_2 l1 row k j
         omega⟩
        go_wp2_with (fail)
        refine (turns_add.calls HGR.out (by have := HLEN.out; omega) (k : Int) (b : Int)).mono ?_
        rintro e w5 ⟨rfl, hg, hfr⟩
        have HG5 := Aside0.mk hg
        replace HK13 := Aside0.mk (hfr b13 _ _ HG13.out (by decide) HK13.out)
        clear hg hfr
        go_wp2_with (fail)
        go_roundw
        case rel => exact ⟨j + 1, by go_num, by omega, ⟨by rw [HMZ.out, ← List.append_assoc]; exact HG5.out⟩, HK13⟩
        case measure => simp [intOf]; omega
       | false =>
        have HMZ := Aside0.mk (HMN.out rfl)
        clear HMY HMN
        go_wp2_with (fail)
        go_roundw
        case rel => exact ⟨j + 1, by go_num, by omega, ⟨by rw [HMZ.out]; exact HGR.out⟩, HK13⟩
        case measure => simp [intOf]; omega
      ·obtain rfl : j = row.length := by omega
       go_wp2_with (fail)
       go_roundw
       case rel => exact ⟨k + 1, by go_num, by omega, ⟨by rw [midL_succ, HROW.out, ← List.append_assoc]; exact HGR.out⟩⟩
       case measure => simp [intOf]; omega
    ·obtain rfl : k = l0_2.length := by omega
     clear hk hkl
     have d2 : wr.cell? ⟨w.heap.size, 2, none⟩ = some (.slice A0_2 l0_2.length c0_2) := blk_cell (HGR.out.blk HB5.out (by have := HBGL.out; omega)) 2
     replace HGR : Aside0 (GrowG w1 wr bg ((l0_2.length : Int) + 2 * (l0_0.length : Int)) (srcL l0_2.length l0_2 l0_2.length ++ midL l0_0 l0_2 l1 l0_2.length ++ tgtL l0_2.length l0_0.length l0_2 0)) := ⟨by rw [show tgtL l0_2.length l0_0.length l0_2 0 = [] from rfl, List.append_nil]; exact HGR.out⟩
     go_wp2_with (fail)
     obtain ⟨wx, hwx⟩ : ∃ q, q = wr := ⟨_, rfl⟩
     subst hwx
     clear d2
     go_loopw [89] (fun i wr => ∃ k : Nat, i = .int .i64 (k : Int) ∧ k ≤ l0_2.length ∧ Aside0 (GrowG w1 wr bg ((l0_2.length : Int) + 2 * (l0_0.length : Int)) (srcL l0_2.length l0_2 l0_2.length ++ midL l0_0 l0_2 l1 l0_2.length ++ tgtL l0_2.length l0_0.length l0_2 k))) (fun i _ => l0_2.length - (intOf i).toNat)
     case atStart => exact ⟨0, rfl, Nat.zero_le _, HGR⟩
     case round =>
      clear HGR
      obtain ⟨k, rfl, hk, HGR⟩ := hrel
      by_cases hkl : k < l0_2.length
      ·have HPW := Aside0.mk (HGR.out.C HPC.out HB.out (by have := HBGL.out; omega))
       obtain ⟨pb, po, rfl⟩ := pc_at HPW.out hkl
       obtain ⟨xA, xc, hxl, hxC, z0, z1, z2, z3, z4, z5, z6, z7⟩ := pc_get HPW.out hkl
       have HXN := Aside0.mk (HOK.out _ (rd_mem hkl))
       obtain ⟨x, HX⟩ : ∃ x, Aside0 (rd_T58 l0_2 (k : Int) = x) := ⟨_, ⟨rfl⟩⟩
       rw [HX.out] at z0 z1 z2 z3 z4 z5 z6 z7 HXN
       have hki : (k : Int) < (l0_2.length : Int) := by omega
       have hx0 : 0 ≤ x.f0 ∧ x.f0 < (l0_0.length : Int) := by have := HXN.out; unfold pcBad at this; omega
       have hx1 : 0 ≤ x.f1 ∧ x.f1 < (l0_0.length : Int) := by have := HXN.out; unfold pcBad at this; omega
       obtain ⟨hx00, hx01⟩ := hx0
       obtain ⟨hx10, hx11⟩ := hx1
       clear hxl hxC
       have HLEN : Aside0 ((srcL l0_2.length l0_2 l0_2.length ++ midL l0_0 l0_2 l1 l0_2.length ++ tgtL l0_2.length l0_0.length l0_2 k).length ≤ 2000000) := ⟨by
        rw [List.length_append, List.length_append, srcL_len, tgtL_len]
        have h1 := midL_len l0_0 l0_2 l1 l0_2.length
        have h2 : l0_2.length * l0_2.length ≤ 1000 * 1000 := Nat.mul_le_mul hpl hpl
        omega⟩
       go_wp2_with (fail)
       have hba : Below wr.heap.size wr (wr.alloc (Obj.cells #[.int .i64 x.f0, .int .i64 x.f1, .int .i64 x.f2, .int .i64 x.f3, .int .i64 x.f4, .slice xA x.f5.f0.length xc, .int .i64 x.f5.f1, .int .i64 x.f5.f2] 58)) := (Below.refl _ _).alloc (Nat.le_refl _) _
       have HG13 : Aside0 (wr.heap.size ≠ bg) := ⟨by have h1 := HGR.out.lt; have h2 := HGR.out.bel.size; omega⟩
       replace HGR := Aside0.mk (HGR.out.below hba)
       have HK13 := Aside0.mk (heap_alloc_new wr (Obj.cells #[.int .i64 x.f0, .int .i64 x.f1, .int .i64 x.f2, .int .i64 x.f3, .int .i64 x.f4, .slice xA x.f5.f0.length xc, .int .i64 x.f5.f1, .int .i64 x.f5.f2] 58))
       clear hba z0 z1 z2 z3 z4 z5 z6 z7
       generalize wr.alloc (Obj.cells #[.int .i64 x.f0, .int .i64 x.f1, .int .i64 x.f2, .int .i64 x.f3, .int .i64 x.f4, .slice xA x.f5.f0.length xc, .int .i64 x.f5.f1, .int .i64 x.f5.f2] 58) = w2 at HGR HK13 ⊢
       obtain ⟨b13, HE13⟩ : ∃ b, Aside0 (wr.heap.size = b) := ⟨_, ⟨rfl⟩⟩
       rw [HE13.out] at HK13 HG13 ⊢
       refine (turns_add.calls HGR.out (by have := HLEN.out; omega) (k : Int) ((l0_2.length : Int) + (l0_0.length : Int) + x.f1)).mono ?_
       rintro e w3 ⟨rfl, hg, _⟩
       have HG3 := Aside0.mk hg
       clear hg
       go_wp2_with (fail)
       go_roundw
       case rel => exact ⟨k + 1, by go_num, by omega, ⟨by rw [tgtL_succ, HX.out, ← List.append_assoc]; exact HG3.out⟩⟩
       case measure => simp [intOf]; omega
      ·obtain rfl : k = l0_2.length := by omega
       clear hk hkl
       obtain ⟨v, hv1, hv2⟩ := HGR.out.row
       obtain ⟨VA, vc, rfl⟩ := Kd.R_slice hv2
       have HV1 := Aside0.mk hv1
       have HV2 := Aside0.mk hv2
       have HF4 := Aside0.mk (HGR.out.blk HB4.out (by have := HBGL.out; omega))
       have g0 : wr.cell? ⟨bg, 0, none⟩ = some (.int .i64 ((l0_2.length : Int) + 2 * (l0_0.length : Int))) := blk_cell HV1.out 0
       have g1 : wr.cell? ⟨bg, 1, none⟩ = some (.slice VA (srcL l0_2.length l0_2 l0_2.length ++ midL l0_0 l0_2 l1 l0_2.length ++ tgtL l0_2.length l0_0.length l0_2 l0_2.length).length vc) := blk_cell HV1.out 1
       have k0 : wr.cell? ⟨w.heap.size + 1, 0, none⟩ = some (.int .i64 0) := blk_cell HF4.out 0
       have k1 : wr.cell? ⟨w.heap.size + 1, 1, none⟩ = some (.slice none 0 0) := blk_cell HF4.out 1
       have f0 : wr.frozen? ⟨w.heap.size + 1, 0, none⟩ = false := blk_frozen HF4.out 0
       have f1 : wr.frozen? ⟨w.heap.size + 1, 1, none⟩ = false := blk_frozen HF4.out 1
       obtain ⟨m, HM⟩ : ∃ m, Aside0 ((srcL l0_2.length l0_2 l0_2.length ++ midL l0_0 l0_2 l1 l0_2.length ++ tgtL l0_2.length l0_0.length l0_2 l0_2.length).length = m) := ⟨_, ⟨rfl⟩⟩
       rw [HM.out] at g1
       clear hv1 hv2
       go_wp2_with (fail)
       refine bodyPost_ret (results_cell_row rfl _ _ (w.heap.size + 1) 51 #[.int .i64 ((l0_2.length : Int) + 2 * (l0_0.length : Int)), .slice VA m vc] (0, 0) _ rfl (blk_put (cs' := #[.int .i64 ((l0_2.length : Int) + 2 * (l0_0.length : Int)), .slice VA m vc]) (blk_put (cs' := #[.int .i64 ((l0_2.length : Int) + 2 * (l0_0.length : Int)), .slice none 0 0]) HF4.out 0 _ rfl) 1 _ rfl) Try.underlying51 rfl (by kernel_rfl)) rfl ?_
       obtain ⟨rfl, rfl⟩ := HRR.out
       have hsz : w.heap.size ≤ w1.heap.size := HB.out.size
       have hbw : Below w.heap.size w wr := HB.out.trans (HGR.out.bel.out hsz (fun k hk => by have := HBGL.out; omega))
       refine ⟨_, rfl, ?_, (hbw.setCell (p := ⟨w.heap.size + 1, 0, none⟩) (by simp) _).setCell (p := ⟨w.heap.size + 1, 1, none⟩) (by simp) _⟩
       have hr2 := HV2.out
       have e2 : (srcL l0_2.length l0_2 l0_2.length ++ midL l0_0 l0_2 l1 l0_2.length ++ tgtL l0_2.length l0_0.length l0_2 l0_2.length) = expL l0_0 l0_2 l1 := rfl
       rw [HM.out, e2] at hr2
       have hne : w.heap.size + 1 < w1.heap.size := Nat.lt_trans HBGL.out HGR.out.lt
       exact Kd.R_lower (Kd.R_mono (Kd.R_far (p := ⟨w.heap.size + 1, 1, none⟩) (Kd.R_far (p := ⟨w.heap.size + 1, 0, none⟩) (Kd.R_mono (Kd.R_bound hr2) (ok' := fun k => w1.heap.size ≤ k) (fun k hk => hk.2.1)) (fun k hk e => by have h1 : w1.heap.size ≤ k := hk; have h2 : k = w.heap.size + 1 := e; omega) _) (fun k hk e => by have h1 : w1.heap.size ≤ k := hk; have h2 : k = w.heap.size + 1 := e; omega) _) (fun _ _ => trivial)) hsz
end Go.Proofs.Ytaodlehnfjalnaa.Print
