/- Several texts of this claim in one: HMNew, HMPure, HMRef. -/
import Derived.Test.YtfnophaiamkmpaaM12
import Derived.Test.YtfnophaiamkmpaaM15
import Derived.Test.YtfnophaiamkmpaaM18
namespace Go.Proofs.Ytfnophaiamkmpaa.Print
open Go.RowKit Go.Proofs.YtfnophaiamkmpaaW.PrintWords Go.Proofs.YtfnophaiamkmpaaW.PrintLast Go.Proofs.YtfnophaiamkmpaaW.PrintMore
set_option linter.unusedVariables false
set_option linter.unusedSimpArgs false
structure MetO (w : World) (base q p : Nat) (o : Tags) (wv uv dv : Value) (Ba : Nat) (va : Nat → Value) (ws : List Int) (ar : List (List Int)) (up dn : List Int) : Prop where
 blk : w.heap[q]? = some (.cells #[.pointer (some ⟨p, 0, none⟩), wv, .slice (some ⟨Ba, 0, none⟩) ar.length ar.length, uv, dv] 117 (0, 0))
 qtag : o q = (6, 0)
 qlo : base ≤ q
 wr : Kd.R (Kd.int .i64) 3 w base (fun k => o k = (1, 0)) wv ws
 ur : Kd.R (Kd.int .i64) 3 w base (fun k => o k = (2, 0)) uv up
 dr : Kd.R (Kd.int .i64) 3 w base (fun k => o k = (3, 0)) dv dn
 ra : RowsIs w base Ba 4 o va ar
section
variable {w w1 : World} {base q p : Nat} {o o' : Tags} {wv uv dv : Value} {Ba : Nat} {va : Nat → Value} {ws : List Int} {ar : List (List Int)} {up dn : List Int}
theorem MetO.reads (h : MetO w base q p o wv uv dv Ba va ws ar up dn) (hl : ar.length ≤ 1000000000) : MetR w q p ws ar up dn := by
 obtain ⟨wA, wc, hw, hwc, hwC⟩ := Kd.R_reads h.wr
 obtain ⟨uA, uc, hu, huc, huC⟩ := Kd.R_reads h.ur
 obtain ⟨dA, dc, hd, hdc, hdC⟩ := Kd.R_reads h.dr
 have hb := h.blk
 rw [hw, hu, hd] at hb
 exact ⟨wA, wc, some ⟨Ba, 0, none⟩, ar.length, uA, uc, dA, dc, hb, ⟨hwC, hwc⟩, ⟨h.ra.reads hl, Nat.le_refl _⟩, ⟨huC, huc⟩, ⟨hdC, hdc⟩⟩
theorem MetO.keep (h : MetO w base q p o wv uv dv Ba va ws ar up dn) (hs : w.heap.size ≤ w1.heap.size) (hm : ∀ k, k < w.heap.size → 1 ≤ (o k).1 → (o k).1 ≤ 6 → w1.heap[k]? = w.heap[k]?) : MetO w1 base q p o wv uv dv Ba va ws ar up dn :=
 ⟨(hm q (hblk_lt h.blk) (by rw [h.qtag]; decide) (by rw [h.qtag]; decide)).trans h.blk, h.qtag, h.qlo, Kd.R_step h.wr (fun k hk hlt => hm k hlt (by rw [hk]; decide) (by rw [hk]; decide)), Kd.R_step h.ur (fun k hk hlt => hm k hlt (by rw [hk]; decide) (by rw [hk]; decide)), Kd.R_step h.dr (fun k hk hlt => hm k hlt (by rw [hk]; decide) (by rw [hk]; decide)), rows_move h.ra hs (fun k hk ht => hm k hk (by omega) (by omega))⟩
theorem MetO.below (h : MetO w base q p o wv uv dv Ba va ws ar up dn) (hb : Below w.heap.size w w1) : MetO w1 base q p o wv uv dv Ba va ws ar up dn := h.keep hb.size (fun k hk _ _ => hb.block k hk)
theorem MetO.lower {base' : Nat} (h : MetO w base q p o wv uv dv Ba va ws ar up dn) (hb : base' ≤ base) : MetO w base' q p o wv uv dv Ba va ws ar up dn :=
 ⟨h.blk, h.qtag, Nat.le_trans hb h.qlo, Kd.R_lower h.wr hb, Kd.R_lower h.ur hb, Kd.R_lower h.dr hb, ⟨h.ra.cell, fun i hi => Kd.R_lower (h.ra.row i hi) hb, h.ra.own, Nat.le_trans hb h.ra.lo, h.ra.top, h.ra.frz⟩⟩
theorem MetO.base_le (h : MetO w base q p o wv uv dv Ba va ws ar up dn) : base ≤ w.heap.size := by
 have := hblk_lt h.blk
 have := h.qlo
 omega
theorem MetO.upPut (h : MetO w base q p o wv uv dv Ba va ws ar up dn) {g c : Nat} (he : uv = .slice (some ⟨g, 0, none⟩) up.length c) (i : Nat) (x : Int) (hg : o g = (2, 0)) : MetO (w.setCell ⟨g, i, none⟩ (.int .i64 x)) base q p o wv uv dv Ba va ws ar (up.set i x) dn := by
 have hne : ∀ k, (o k).1 ≠ 2 → (w.setCell ⟨g, i, none⟩ (.int .i64 x)).heap[k]? = w.heap[k]? := fun k hk => Below.heap_setCell _ _ _ _ (fun e => by have e' : k = g := e; rw [e', hg] at hk; exact hk rfl)
 refine ⟨(hne q (by rw [h.qtag]; decide)).trans h.blk, h.qtag, h.qlo, Kd.R_step h.wr (fun k hk _ => hne k (by rw [hk]; decide)), ?_, Kd.R_step h.dr (fun k hk _ => hne k (by rw [hk]; decide)), rows_move h.ra (by rw [setCell_size]; exact Nat.le_refl _) (fun k hk ht => hne k (by rw [ht]; decide))⟩
 have h1 := h.ur
 rw [he] at h1 ⊢
 have h2 := (Kd.R_put (enc := Value.int .i64) (h1 := fun _ => rfl) h1 (i : Int) x).1
 rw [Int.toNat_natCast] at h2
 exact h2
theorem MetO.dnPut (h : MetO w base q p o wv uv dv Ba va ws ar up dn) {g c : Nat} (he : dv = .slice (some ⟨g, 0, none⟩) dn.length c) (i : Nat) (x : Int) (hg : o g = (3, 0)) : MetO (w.setCell ⟨g, i, none⟩ (.int .i64 x)) base q p o wv uv dv Ba va ws ar up (dn.set i x) := by
 have hne : ∀ k, (o k).1 ≠ 3 → (w.setCell ⟨g, i, none⟩ (.int .i64 x)).heap[k]? = w.heap[k]? := fun k hk => Below.heap_setCell _ _ _ _ (fun e => by have e' : k = g := e; rw [e', hg] at hk; exact hk rfl)
 refine ⟨(hne q (by rw [h.qtag]; decide)).trans h.blk, h.qtag, h.qlo, Kd.R_step h.wr (fun k hk _ => hne k (by rw [hk]; decide)), Kd.R_step h.ur (fun k hk _ => hne k (by rw [hk]; decide)), ?_, rows_move h.ra (by rw [setCell_size]; exact Nat.le_refl _) (fun k hk ht => hne k (by rw [ht]; decide))⟩
 have h1 := h.dr
 rw [he] at h1 ⊢
 have h2 := (Kd.R_put (enc := Value.int .i64) (h1 := fun _ => rfl) h1 (i : Int) x).1
 rw [Int.toNat_natCast] at h2
 exact h2
theorem MetO.rowPut (h : MetO w base q p o wv uv dv Ba va ws ar up dn) {i : Nat} (hi : i < ar.length) {v1 : Value} {r1 : List Int} (hr : Kd.R (Kd.int .i64) 3 w1 base (fun _ => True) v1 r1) (hg : w.grownBy w1 (va i).ownBlock)
  (hat : v1.ownBlock = (va i).ownBlock ∨ ∃ b, v1.ownBlock = some b ∧ w.heap.size ≤ b) : ∃ o' va', MetO (w1.setCell ⟨Ba, i, none⟩ v1) base q p o' wv uv dv Ba va' ws (ar.set i r1) up dn := by
 obtain ⟨o', ho1, ho2, HRP⟩ := h.ra.put hi hr hg hat
 have hne : ∀ k, k < w.heap.size → (o k).1 ≠ 4 → (w1.setCell ⟨Ba, i, none⟩ v1).heap[k]? = w.heap[k]? := fun k hlt hk => (Below.heap_setCell _ _ _ _ (fun e => by have e' : k = Ba := e; rw [e', h.ra.own] at hk; exact hk rfl)).trans (hg.block k hlt (fun e => by have h1 : o k = (4, i + 1) := (h.ra.row i hi).1 k e.symm; rw [h1] at hk; exact hk rfl))
 refine ⟨o', fun j => if j = i then v1 else va j, ?_, by rw [ho1 q (hblk_lt h.blk)]; exact h.qtag, h.qlo, ?_, ?_, ?_, HRP⟩
 ·rw [List.length_set]
  exact (hne q (hblk_lt h.blk) (by rw [h.qtag]; decide)).trans h.blk
 ·exact Kd.R_reok rfl (Kd.R_step h.wr (fun k hk hlt => hne k hlt (by rw [hk]; decide))) (fun k hk => by
   show o' k = (1, 0)
   rw [ho1 k (Kd.R_lt h.wr k hk)]; exact h.wr.1 k hk)
 ·exact Kd.R_reok rfl (Kd.R_step h.ur (fun k hk hlt => hne k hlt (by rw [hk]; decide))) (fun k hk => by
   show o' k = (2, 0)
   rw [ho1 k (Kd.R_lt h.ur k hk)]; exact h.ur.1 k hk)
 ·exact Kd.R_reok rfl (Kd.R_step h.dr (fun k hk hlt => hne k hlt (by rw [hk]; decide))) (fun k hk => by
   show o' k = (3, 0)
   rw [ho1 k (Kd.R_lt h.dr k hk)]; exact h.dr.1 k hk)
end
def arcsTo (n : Nat) (arcs : List S58) (R : List Int) (S : HSt) : Nat → List (List Int)
 | 0 => List.replicate S.edges.length []
 | k + 1 => if (findS n R S (rd_T58 arcs (k : Int)).f0 (rd_T58 arcs (k : Int)).f1).2 = true then hpush (arcsTo n arcs R S k) (findS n R S (rd_T58 arcs (k : Int)).f0 (rd_T58 arcs (k : Int)).f1).1.toNat (k : Int) else arcsTo n arcs R S k
theorem arcsTo_len (n : Nat) (arcs : List S58) (R : List Int) (S : HSt) : ∀ k, (arcsTo n arcs R S k).length = S.edges.length
 | 0 => List.length_replicate ..
 | k + 1 => by
  unfold arcsTo
  split
  ·unfold hpush
   rw [List.length_set]
   exact arcsTo_len n arcs R S k
  ·exact arcsTo_len n arcs R S k
theorem arcsTo_cap (n : Nat) (arcs : List S58) (R : List Int) (S : HSt) : ∀ k e, ((arcsTo n arcs R S k).getD e []).length ≤ k
 | 0, e => by
  unfold arcsTo
  by_cases h : e < S.edges.length
  ·simp [h]
  ·simp [h]
 | k + 1, e => by
  have h1 := arcsTo_cap n arcs R S k e
  unfold arcsTo
  split
  ·unfold hpush
   rw [getD_set_list]
   split
   ·rename_i h2 h3
    rw [h3.1]
    rw [List.length_append, List.length_singleton]
    omega
   ·omega
  ·omega
def sidesTo (n : Nat) (arcs : List S58) (R : List Int) (S : HSt) (ws : List Int) (ar : List (List Int)) : Nat → List Int × List Int
 | 0 => (List.replicate S.edges.length 0, List.replicate S.edges.length 0)
 | k + 1 => ((sidesTo n arcs R S ws ar k).1.set k (weightsS n arcs R S ws ar (sidesTo n arcs R S ws ar k).1 (sidesTo n arcs R S ws ar k).2 k).1, (sidesTo n arcs R S ws ar k).2.set k (weightsS n arcs R S ws ar (sidesTo n arcs R S ws ar k).1 (sidesTo n arcs R S ws ar k).2 k).2)
theorem sidesTo_len (n : Nat) (arcs : List S58) (R : List Int) (S : HSt) (ws : List Int) (ar : List (List Int)) : ∀ k, (sidesTo n arcs R S ws ar k).1.length = S.edges.length ∧ (sidesTo n arcs R S ws ar k).2.length = S.edges.length
 | 0 => ⟨List.length_replicate .., List.length_replicate ..⟩
 | k + 1 => by
  have h1 := sidesTo_len n arcs R S ws ar k
  exact ⟨(List.length_set ..).trans h1.1, (List.length_set ..).trans h1.2⟩
set_option maxHeartbeats 3200000 in
set_option maxRecDepth 100000 in
theorem custom_New.calls {w : World} {p n : Nat} {arcs : List S58} {L R : List Int} {S : HSt} {wA : Option Addr} {wc : Nat} {ws : List Int} (hh : HierR w p n arcs L R S) (hR : R.length = n) (hok : HOk n S) (hend : ∀ a ∈ S.edges, 0 ≤ a.f0 ∧ a.f0 < (n : Int)) (hs : ∀ v, (S.downs.getD v []).length ≤ 1000000000)
  (hal : arcs.length ≤ 1000000) (hel : S.edges.length ≤ 20000) (hw : Kd.C (Kd.int .i64) w wA ws.length ws) (hwc : ws.length ≤ wc) (hwl : ws.length ≤ 1000000) (hf : ∀ u v, (findS n R S u v).2 = true → 0 ≤ (findS n R S u v).1 ∧ (findS n R S u v).1 < (S.edges.length : Int))
  (hn : dchk (n : Int) arcs ws = 0 → ∀ k, k < S.edges.length → WNeed n arcs R S ws (arcsTo n arcs R S arcs.length) (sidesTo n arcs R S ws (arcsTo n arcs R S arcs.length) k).1 (sidesTo n arcs R S ws (arcsTo n arcs R S arcs.length) k).2 k) :
  Calls Try.prog 46 #[.pointer (some ⟨p, 0, none⟩), .slice wA ws.length wc] w fun e w' => Below w.heap.size w w' ∧ ((dchk (n : Int) arcs ws ≠ 0 ∧ e = .returned (.tuple #[.pointer none, .int .i64 (dchk (n : Int) arcs ws)])) ∨
   (dchk (n : Int) arcs ws = 0 ∧ ∃ q o wv uv dv Ba va, e = .returned (.tuple #[.pointer (some ⟨q, 0, none⟩), .int .i64 0]) ∧ MetO w' w.heap.size q p o wv uv dv Ba va ws (arcsTo n arcs R S arcs.length) (sidesTo n arcs R S ws (arcsTo n arcs R S arcs.length) S.edges.length).1 (sidesTo n arcs R S ws (arcsTo n arcs R S arcs.length) S.edges.length).2)) := by
 have HH := Aside0.mk hh
 have HW := Aside0.mk hw
 have HWC := Aside0.mk hwc
 have HN := Aside0.mk hn
 have HOK := Aside0.mk hok
 have HEND := Aside0.mk hend
 have HS := Aside0.mk hs
 have HF := Aside0.mk hf
 clear hh hw hwc hn hok hend hs hf
 go_enter Try.func46, Try.ntmps46
 go_wp2_with (fail)
 refine (Hier_Graph.calls HH.out (by omega)).mono ?_
 rintro e w1 ⟨gv, rfl, hr1, hb1⟩
 obtain ⟨gA, gc, hgv, hgc, hgC⟩ := Kd.R_reads hr1
 subst hgv
 have HG := Aside0.mk hgC
 have HGC := Aside0.mk hgc
 have HB := Aside0.mk hb1
 clear hr1 hb1 hgC hgc
 go_wp2_with (fail)
 have HBK := Aside0.mk (heap_alloc_new w1 (Obj.cells #[.int .i64 (n : Int), .slice gA arcs.length gc] 24))
 have HBE : Below w1.heap.size w1 (w1.alloc (Obj.cells #[.int .i64 (n : Int), .slice gA arcs.length gc] 24)) := (Below.refl _ _).alloc (Nat.le_refl _) _
 replace HG := Aside0.mk (Kd.C_below HG.out HBE)
 replace HB := Aside0.mk (below_then HB.out HB.out.size HBE)
 clear HBE
 generalize w1.alloc (Obj.cells #[.int .i64 (n : Int), .slice gA arcs.length gc] 24) = w2 at HBK HG HB ⊢
 generalize w1.heap.size = b6 at HBK ⊢
 refine (dijkstra_Check.calls (n : Int) gA gc arcs wA wc ws (dchk (n : Int) arcs ws) w2 HG.out HGC.out (Kd.C_below HW.out HB.out) HWC.out (by unfold dijkstra_Check.f; rw [if_pos ⟨by omega, by omega⟩])).mono ?_
 rintro e w3 ⟨rfl, hb3⟩
 replace HG := Aside0.mk (Kd.C_below HG.out hb3)
 replace HBK := Aside0.mk (blk_below HBK.out hb3)
 replace HB := Aside0.mk (below_then HB.out HB.out.size hb3)
 clear hb3
 by_cases hd : dchk (n : Int) arcs ws = 0
 ·have HNE := Aside0.mk (HN.out hd)
  rw [hd]
  go_wp2_with (fail)
  refine (Hier_Edges.calls (HH.out.below HB.out) (by omega)).mono ?_
  rintro e w4 ⟨ev, rfl, hr4, hb4⟩
  obtain ⟨eA, ec, hev, hec, heC⟩ := Kd.R_reads hr4
  subst hev
  have HE := Aside0.mk heC
  replace HG := Aside0.mk (Kd.C_below HG.out hb4)
  replace HBK := Aside0.mk (blk_below HBK.out hb4)
  replace HB := Aside0.mk (below_then HB.out HB.out.size hb4)
  clear hr4 hb4 hec heC
  go_upto_region 8 with (fail)
  refine mk_region (W0 := w4) (base := w4.heap.size) (p := p) (m := S.edges.length) (wA := wA) (wc := wc) (ws := ws) (eA := eA) (ec := ec) hel hwl HWC.out (fun _ _ _ d _ h => by cases d <;> exact h) ?_ (o := fun _ => (0, 0)) ⟨Kd.C_drew (Kd.C_below HW.out HB.out), Nat.le_refl _, below_drew (Below.refl _ _), Nat.le_refl _, fun _ _ => rfl, fun h => absurd h (by decide), fun h => absurd h (by decide), fun h => absurd h (by decide), fun h => absurd h (by decide)⟩
  intro w5 o v29 v32 v35 v38 hinv
  obtain ⟨m, HME⟩ : ∃ m, Aside0 (S.edges.length = m) := ⟨_, ⟨rfl⟩⟩
  obtain ⟨Ba, rfl, hBa, hta, hla⟩ := hinv.hA rfl
  obtain ⟨Bu, rfl, hru⟩ := hinv.hU rfl
  obtain ⟨Bd, rfl, hrd⟩ := hinv.hD rfl
  obtain ⟨wB, wcc, rfl⟩ := Kd.R_slice (hinv.hC rfl)
  have hbp : Below w5.heap.size w5 (w5.alloc (.cells #[.pointer (some ⟨p, 0, none⟩), .slice wB ws.length wcc, .slice (some ⟨Ba, 0, none⟩) S.edges.length S.edges.length, .slice (some ⟨Bu, 0, none⟩) S.edges.length S.edges.length, .slice (some ⟨Bd, 0, none⟩) S.edges.length S.edges.length] 117 (0, 0))) := (Below.refl _ _).alloc (Nat.le_refl _) _
  have hmv := hinv.move hbp (6, 0)
  have hpb := heap_alloc_new w5 (.cells #[.pointer (some ⟨p, 0, none⟩), .slice wB ws.length wcc, .slice (some ⟨Ba, 0, none⟩) S.edges.length S.edges.length, .slice (some ⟨Bu, 0, none⟩) S.edges.length S.edges.length, .slice (some ⟨Bd, 0, none⟩) S.edges.length S.edges.length] 117 (0, 0))
  have hpt : tagNew o w5.heap.size (6, 0) w5.heap.size = (6, 0) := tagNew_new (Nat.le_refl _)
  obtain ⟨Bu', eu, hru'⟩ := hmv.hU rfl
  obtain ⟨Bd', ed, hrd'⟩ := hmv.hD rfl
  have hta' : tagNew o w5.heap.size (6, 0) Ba = (4, 0) := by rw [tagNew_old (hblk_lt hBa)]; exact hta
  have hBa' := (hbp.block Ba (hblk_lt hBa)).trans hBa
  have HM : Aside0 (MetO _ w4.heap.size w5.heap.size p (tagNew o w5.heap.size (6, 0)) (.slice wB ws.length wcc) (.slice (some ⟨Bu, 0, none⟩) S.edges.length S.edges.length) (.slice (some ⟨Bd, 0, none⟩) S.edges.length S.edges.length) Ba (fun _ => .slice none 0 0) ws (List.replicate S.edges.length []) (List.replicate S.edges.length 0) (List.replicate S.edges.length 0)) := ⟨⟨by rw [List.length_replicate]; exact hpb, hpt, hinv.blo, hmv.hC rfl, hru', hrd', RowsIs.made hBa' hta' hla⟩⟩
  have HBW := Aside0.mk hmv.bel
  obtain ⟨o0, HO0⟩ : ∃ x, Aside0 (tagNew o w5.heap.size (6, 0) = x) := ⟨_, ⟨rfl⟩⟩
  rw [HO0.out] at HM
  clear hinv hBa hta hla hru hrd hmv hpb hpt eu ed hru' hrd' hta' hBa' hbp HO0
  generalize w5.alloc (.cells #[.pointer (some ⟨p, 0, none⟩), .slice wB ws.length wcc, .slice (some ⟨Ba, 0, none⟩) S.edges.length S.edges.length, .slice (some ⟨Bu, 0, none⟩) S.edges.length S.edges.length, .slice (some ⟨Bd, 0, none⟩) S.edges.length S.edges.length] 117 (0, 0)) = w6 at HM HBW ⊢
  generalize w5.heap.size = q at HM ⊢
  rw [HME.out] at HM hel ⊢
  have hcb1 := pw_cell_below HBW.out ((blk_cell HBK.out 1).trans rfl)
  go_wp2_with (fail)
  go_loopw [44] (fun i wr => ∃ (k : Nat) (o' : Tags) (va : Nat → Value), i = .int .i64 (k : Int) ∧ k ≤ arcs.length ∧ Aside0 (Below w4.heap.size w4 wr) ∧ Aside0 (MetO wr w4.heap.size q p o' (.slice wB ws.length wcc) (.slice (some ⟨Bu, 0, none⟩) m m) (.slice (some ⟨Bd, 0, none⟩) m m) Ba va ws (arcsTo n arcs R S k) (List.replicate m 0) (List.replicate m 0))) (fun i _ => arcs.length - (intOf i).toNat)
  case atStart => exact ⟨0, o0, fun _ => .slice none 0 0, rfl, Nat.zero_le _, HBW, ⟨by unfold arcsTo; rw [HME.out]; exact HM.out⟩⟩
  case round =>
   clear HBW HM hcb1
   obtain ⟨k, o1, va, rfl, hk, HBW, HM⟩ := hrel
   by_cases hkl : k < arcs.length
   ·obtain ⟨ae, hA2, hx0, hx1⟩ := at_T58 (Kd.C_below HG.out HBW.out) (k : Int) (by omega) (by omega)
    obtain ⟨ae2, hA3, hz0, _⟩ := at_T58 (Kd.C_below HG.out HBW.out) 0 (by omega) (by omega)
    obtain rfl : ae2 = ae := Option.some.inj (hA3.symm.trans hA2)
    have hsp := spot_of_cell (ad := ae2) (by exact hz0)
    obtain ⟨ab, ao, asb⟩ := ae2
    injection hsp with hz1 hz2 hes
    clear hz1 hz2 hz0 hA3
    subst hes
    simp only [Addr.add_lit, Int.toNat_natCast] at hx0 hx1
    subst hA2
    obtain ⟨x0, HX0⟩ : ∃ x, Aside0 ((rd_T58 arcs (k : Int)).f0 = x) := ⟨_, ⟨rfl⟩⟩
    obtain ⟨x1, HX1⟩ : ∃ x, Aside0 ((rd_T58 arcs (k : Int)).f1 = x) := ⟨_, ⟨rfl⟩⟩
    rw [HX0.out] at hx0
    rw [HX1.out] at hx1
    have hki : (k : Int) < (arcs.length : Int) := by omega
    go_wp2_with (fail)
    have HBA := Aside0.mk (below_then HB.out HB.out.size HBW.out)
    have hba : Below wr.heap.size wr (wr.alloc (Obj.cells #[.int .i64 x0, .int .i64 x1] 58)) := (Below.refl _ _).alloc (Nat.le_refl _) _
    refine (Hier_Find.calls (HH.out.below (below_then HBA.out HBA.out.size hba)) hR x0 x1).mono ?_
    rintro ev w7 ⟨rfl, hb7⟩
    have hbr : Below wr.heap.size wr w7 := below_then hba (by rw [World.size_alloc]; omega) hb7
    replace HBW := Aside0.mk (below_then HBW.out HBW.out.size hbr)
    replace HM := Aside0.mk (HM.out.below hbr)
    clear hx0 hx1 hba hb7 hbr HBA
    have HFI := Aside0.mk (HF.out x0 x1)
    have HTO : Aside0 (arcsTo n arcs R S (k + 1) = if (findS n R S x0 x1).2 = true then hpush (arcsTo n arcs R S k) (findS n R S x0 x1).1.toNat (k : Int) else arcsTo n arcs R S k) := ⟨by rw [← HX0.out, ← HX1.out]; rfl⟩
    rw [HME.out] at HFI
    generalize findS n R S x0 x1 = f at HFI HTO ⊢
    obtain ⟨fe, fb⟩ := f
    cases fb with
    | false =>
     replace HTO : Aside0 (arcsTo n arcs R S (k + 1) = arcsTo n arcs R S k) := ⟨HTO.out.trans (if_neg Bool.false_ne_true)⟩
     go_wp2_with (fail)
     go_roundw
     case rel => exact ⟨k + 1, o1, va, by go_num, by omega, HBW, ⟨by rw [HTO.out]; exact HM.out⟩⟩
     case measure => simp [intOf]; omega
    | true =>
     replace HTO : Aside0 (arcsTo n arcs R S (k + 1) = hpush (arcsTo n arcs R S k) fe.toNat (k : Int)) := ⟨HTO.out.trans (if_pos rfl)⟩
     have hf0 : 0 ≤ fe := (HFI.out rfl).1
     have hf1 : fe < (m : Int) := (HFI.out rfl).2
     obtain ⟨e, rfl⟩ := Int.eq_ofNat_of_zero_le hf0
     rw [Int.toNat_natCast] at HTO
     have hlen := arcsTo_len n arcs R S k
     rw [HME.out] at hlen
     have hcap := arcsTo_cap n arcs R S k e
     obtain ⟨H, HHE⟩ : ∃ H, Aside0 (arcsTo n arcs R S k = H) := ⟨_, ⟨rfl⟩⟩
     rw [HHE.out] at HM HTO hlen hcap
     obtain ⟨ru, HRU⟩ : ∃ x, Aside0 (H.getD e [] = x) := ⟨_, ⟨rfl⟩⟩
     rw [HRU.out] at hcap
     have HLEN := Aside0.mk hlen
     have hem : e < m := by omega
     have hcp := (blk_cell HM.out.blk 2).trans rfl
     have hcr := HM.out.ra.cell e (by omega)
     rw [hlen] at hcp
     clear hlen hf0 HFI
     obtain ⟨vr, HVR⟩ : ∃ x, Aside0 (va e = x) := ⟨_, ⟨rfl⟩⟩
     rw [HVR.out] at hcr
     obtain ⟨Ar, cr, hvr⟩ := Kd.R_slice (HM.out.ra.row e (by rw [HLEN.out]; exact hem))
     rw [HVR.out, HRU.out] at hvr
     subst hvr
     go_upto_region 14 with (fail)
     refine s_ (fun w' => w'.cell? ⟨q, 2, none⟩ = some (.slice (some ⟨Ba, 0, none⟩) m m) ∧ w'.cell? ⟨Ba, e, none⟩ = some (.slice Ar ru.length cr)) [16] ⟨hcp, hcr⟩ (fun hHeld => ?_)
     refine p_ 0 59 ?_
     refine p_ 1 60 ?_
     refine p_ 2 61 ?_
     refine t2_ 3 62 hHeld ?_
     refine p_ 4 63 ?_
     refine p_ 5 64 ?_
     refine p_ 6 65 ?_
     refine p_ 7 66 ?_
     refine t2_ 8 67 hHeld ?_
     refine p_ 9 68 ?_
     refine p_ 10 69 ?_
     refine t2_ 11 70 hHeld ?_
     refine p_ 12 71 ?_
     have HD := Aside0.mk (HM.out.below (below_drew (Below.refl _ _)))
     have HBD := Aside0.mk (below_then HBW.out HBW.out.size (below_drew (Below.refl _ _)))
     generalize w7.drew = wd at HD HBD hHeld ⊢
     clear HM HBW hcp hcr
     have HH1 := Aside0.mk hHeld
     refine o_ 13 72 (fun K hK => ?_)
     refine value_ (w1 := ?_) (v := ?_) (by rfl) rfl ?_ ?_; rotate_left 2; (·go_simp; constructor; (·rfl); (·rfl))
     refine hK.out _ _ ⟨(World.cell?_alloc_lt _ _ _ (World.block_lt_of_cell? _ _ hHeld.1)).trans hHeld.1, (World.cell?_alloc_lt _ _ _ (World.block_lt_of_cell? _ _ hHeld.2)).trans hHeld.2⟩ (fun hHeld => ?_)
     clear hK K
     refine n_ 72 ?_
     refine o_ 14 73 (fun K hK => ?_)
     refine Kd.R_append_step (Kd.int .i64) (w0 := w4) w4.heap.size (by rfl) (.tmp 70) (.tmp 72) 25 3 (.int .i64 0) 8 rfl Try.underlying25 info3 rfl (by decide) (by decide) (.slice Ar ru.length cr) ru (k : Int) [.int .i64 (k : Int)] (fun _ => True) (fun _ => False) rfl rfl ?aP (fun _ hk => hk.elim) ?aF ?aO ?aB ?aS ?aL ?_
     (case aP => exact rfl)
     (case aF => exact (fun _ _ => trivial))
     (case aO =>
      have h1 := Kd.R_mono (HD.out.ra.row e (by rw [HLEN.out]; exact hem)) (ok' := fun _ => True) (fun _ _ => trivial)
      rw [HVR.out, HRU.out] at h1
      exact h1)
     (case aB => exact HBD.out)
     (case aS => exact HD.out.base_le)
     (case aL => have := hcap; omega)
     intro v6 w8 ho6 hb6 hg6 hat6
     obtain ⟨A6, c6, he6⟩ := Kd.R_slice ho6
     rw [show (ru ++ [(k : Int)]).length = ru.length + 1 by simp] at he6
     subst he6
     obtain ⟨o6, va6, HRP⟩ := HD.out.rowPut (i := e) (by rw [HLEN.out]; exact hem) ho6 (by rw [HVR.out]; exact hg6) (by rw [HVR.out]; exact hat6)
     have hvq : some q ≠ (Value.slice Ar ru.length cr).ownBlock := fun e2 => by
      have h1 : o1 q = (4, e + 1) := (HD.out.ra.row e (by rw [HLEN.out]; exact hem)).1 q (by rw [HVR.out]; exact e2.symm)
      rw [HD.out.qtag] at h1
      simp at h1
     have hvb : some Ba ≠ (Value.slice Ar ru.length cr).ownBlock := fun e2 => by
      have h1 : o1 Ba = (4, e + 1) := (HD.out.ra.row e (by rw [HLEN.out]; exact hem)).1 Ba (by rw [HVR.out]; exact e2.symm)
      rw [HD.out.ra.own] at h1
      simp at h1
     have hS1 : w8.cell? ⟨q, 2, none⟩ = some (.slice (some ⟨Ba, 0, none⟩) m m) := cell_grown hg6 HH1.out.1 hvq
     have hS2 : w8.cell? ⟨Ba, e, none⟩ = some (.slice Ar ru.length cr) := cell_grown hg6 HH1.out.2 hvb
     have hfz : w8.frozen? ⟨Ba, e, none⟩ = false := (World.frozen?_of_block (hg6.block Ba HD.out.ra.top hvb)).trans (HD.out.ra.frz e)
     have HRP := Aside0.mk HRP
     have HB6 := Aside0.mk (hput hb6 ⟨Ba, e, none⟩ (.slice A6 (ru.length + 1) c6) HD.out.ra.lo)
     refine hK.out _ _ ⟨hS1, hS2⟩ (fun hHeld => ?_)
     clear hK K ho6 hb6 hg6 hat6 hvq hvb
     refine n_ 73 ?_
     refine p_ 15 74 ?_
     refine l_ 16 (fun K hK => ?_)
     refine skip_ (w1 := ?_) (by rfl) rfl ?_ ?_
     rotate_left; (·go_simp; rfl)
     refine hK.out _ _ ?_
     clear hK K hHeld hS1 hS2 hfz
     refine d_ ?_
     have HNX : Aside0 (arcsTo n arcs R S (k + 1) = H.set e (ru ++ [(k : Int)])) := ⟨by rw [HTO.out]; unfold hpush; rw [HRU.out]⟩
     generalize w8.setCell ⟨Ba, e, none⟩ (.slice A6 (ru.length + 1) c6) = w9 at HRP HB6 ⊢
     clear HTO HH1 HD HBD HVR
     go_wp2_with (fail)
     go_roundw
     case rel => exact ⟨k + 1, o6, va6, by go_num, by omega, HB6, ⟨by rw [HNX.out]; exact HRP.out⟩⟩
     case measure => simp [intOf]; omega
   ·obtain rfl : k = arcs.length := by omega
    obtain ⟨AR, HAR⟩ : ∃ x, Aside0 (arcsTo n arcs R S arcs.length = x) := ⟨_, ⟨rfl⟩⟩
    go_wp2_with (fail)
    rw [HAR.out] at HM HNE
    have hARl : AR.length = m := by rw [← HAR.out, arcsTo_len, HME.out]
    go_loopw [78] (fun i wx => ∃ (j : Nat), i = .int .i64 (j : Int) ∧ j ≤ m ∧ Aside0 (Below w4.heap.size w4 wx) ∧ Aside0 (MetO wx w4.heap.size q p o1 (.slice wB ws.length wcc) (.slice (some ⟨Bu, 0, none⟩) m m) (.slice (some ⟨Bd, 0, none⟩) m m) Ba va ws AR (sidesTo n arcs R S ws AR j).1 (sidesTo n arcs R S ws AR j).2)) (fun i _ => m - (intOf i).toNat)
    case atStart => exact ⟨0, rfl, Nat.zero_le _, HBW, ⟨by unfold sidesTo; rw [HME.out]; exact HM.out⟩⟩
    case round =>
     clear HBW HM
     obtain ⟨j, rfl, hj, HBW, HM⟩ := hrel
     have hlu := sidesTo_len n arcs R S ws AR j
     rw [HME.out] at hlu
     obtain ⟨UD, HUD⟩ : ∃ x, Aside0 (sidesTo n arcs R S ws AR j = x) := ⟨_, ⟨rfl⟩⟩
     obtain ⟨U, D⟩ := UD
     rw [HUD.out] at HM hlu
     dsimp only at HM hlu
     by_cases hjl : j < m
     ·have HWN := Aside0.mk (HNE.out j (by rw [HME.out]; exact hjl))
      rw [HUD.out] at HWN
      dsimp only at HWN
      have HNX : Aside0 (sidesTo n arcs R S ws AR (j + 1) = (U.set j (weightsS n arcs R S ws AR U D j).1, D.set j (weightsS n arcs R S ws AR U D j).2)) := ⟨by
       show ((sidesTo n arcs R S ws AR j).1.set j _, (sidesTo n arcs R S ws AR j).2.set j _) = _
       rw [HUD.out]⟩
      have HLU := Aside0.mk hlu
      clear hlu
      have hcq3 := (blk_cell HM.out.blk 3).trans rfl
      have hcq4 := (blk_cell HM.out.blk 4).trans rfl
      go_upto_region 19 with (fail)
      refine s_ (fun w' => w'.cell? ⟨q, 3, none⟩ = some (.slice (some ⟨Bu, 0, none⟩) m m) ∧ w'.cell? ⟨q, 4, none⟩ = some (.slice (some ⟨Bd, 0, none⟩) m m)) [17, 19] ⟨hcq3, hcq4⟩ (fun hHeld => ?_)
      replace HM := Aside0.mk (HM.out.below (below_drew (Below.refl _ _)))
      replace HBW := Aside0.mk (below_then HBW.out HBW.out.size (below_drew (Below.refl _ _)))
      generalize wr.drew = wd at HM HBW hHeld ⊢
      clear hcq3 hcq4
      refine p_ 0 82 ?_
      refine p_ 1 83 ?_
      refine p_ 2 84 ?_
      refine t2_ 3 85 hHeld ?_
      refine p_ 4 86 ?_
      refine p_ 5 87 ?_
      refine p_ 6 88 ?_
      refine p_ 7 89 ?_
      refine t2_ 8 90 hHeld ?_
      refine p_ 9 91 ?_
      refine p_ 10 92 ?_
      refine p_ 11 93 ?_
      refine o_ 12 94 (fun K hK => ?_)
      refine goes_ Try.func69 (by kernel_rfl) rfl #[.pointer (some ⟨q, 0, none⟩), .int .i64 (j : Int)] (by rfl) rfl rfl byL ?_
      refine (Metric_weights.calls (HM.out.reads (by omega)) (HH.out.below (below_then HB.out HB.out.size HBW.out)) hR HOK.out HEND.out HS.out HWN.out).mono ?_
      rintro ev w8 ⟨rfl, hb8⟩
      refine ⟨_, rfl, ?_⟩
      refine hK.out _ _ ⟨pw_cell_below hb8 hHeld.1, pw_cell_below hb8 hHeld.2⟩ (fun hHeld => ?_)
      clear hK K
      replace HM := Aside0.mk (HM.out.below hb8)
      replace HBW := Aside0.mk (below_then HBW.out HBW.out.size hb8)
      clear hb8 HWN
      generalize weightsS n arcs R S ws AR U D j = wt at HNX ⊢
      obtain ⟨wu, wd_⟩ := wt
      dsimp only at HNX
      refine n_ 94 ?_
      refine p_ 13 81 ?_
      refine p_ 14 95 ?_
      refine p_ 15 96 ?_
      refine p_ 16 97 ?_
      have hcu := Kd.R_cell (enc := Value.int .i64) (h1 := fun _ => rfl) (0 : Int) (cap := m) (g := Bu) (by rw [HLU.out.1]; exact HM.out.ur) (j : Int) (by omega) (by rw [HLU.out.1]; omega)
      rw [Int.toNat_natCast] at hcu
      obtain ⟨hcu, hfu⟩ := hcu
      have HM2 := Aside0.mk (HM.out.upPut (g := Bu) (c := m) (by rw [HLU.out.1]) j wu (HM.out.ur.1 Bu rfl))
      have HB2 := Aside0.mk (hput HBW.out ⟨Bu, j, none⟩ (.int .i64 wu) (Kd.R_base HM.out.ur Bu rfl))
      refine l_ 17 (fun K hK => ?_)
      refine skip_ (w1 := ?_) (by rfl) rfl ?_ ?_
      rotate_left; (·go_simp; rfl)
      refine hK.out _ _ ?_
      clear hK K hcu hfu hHeld HM HBW
      generalize wsx : w8.setCell ⟨Bu, j, none⟩ (.int .i64 wu) = w9 at HM2 HB2 ⊢
      clear wsx
      have hcd := Kd.R_cell (enc := Value.int .i64) (h1 := fun _ => rfl) (0 : Int) (cap := m) (g := Bd) (by rw [HLU.out.2]; exact HM2.out.dr) (j : Int) (by omega) (by rw [HLU.out.2]; omega)
      rw [Int.toNat_natCast] at hcd
      obtain ⟨hcd, hfd⟩ := hcd
      have HM3 := Aside0.mk (HM2.out.dnPut (g := Bd) (c := m) (by rw [HLU.out.2]) j wd_ (HM2.out.dr.1 Bd rfl))
      have HB3 := Aside0.mk (hput HB2.out ⟨Bd, j, none⟩ (.int .i64 wd_) (Kd.R_base HM2.out.dr Bd rfl))
      refine p_ 18 98 ?_
      refine l_ 19 (fun K hK => ?_)
      refine skip_ (w1 := ?_) (by rfl) rfl ?_ ?_
      rotate_left; (·go_simp; rfl)
      refine hK.out _ _ ?_
      clear hK K hcd hfd HM2 HB2
      refine d_ ?_
      generalize w9.setCell ⟨Bd, j, none⟩ (.int .i64 wd_) = w10 at HM3 HB3 ⊢
      go_wp2_with (fail)
      go_roundw
      case rel => exact ⟨j + 1, by go_num, by omega, HB3, ⟨by rw [HNX.out]; exact HM3.out⟩⟩
      case measure => simp [intOf]; omega
     ·obtain rfl : j = m := by omega
      have HBF := Aside0.mk (below_then HB.out HB.out.size HBW.out)
      have HMF := Aside0.mk (HM.out.lower HB.out.size)
      have HD := Aside0.mk hd
      clear hd
      go_wp2_with (fail)
      go_ret2
      exact ⟨HBF.out, Or.inr ⟨HD.out, q, o1, _, _, _, Ba, va, rfl, by rw [HAR.out, HME.out, HUD.out]; exact HMF.out⟩⟩
 ·have HD := Aside0.mk hd
  obtain ⟨r, HRE⟩ : ∃ r, Aside0 (dchk (n : Int) arcs ws = r) := ⟨_, ⟨rfl⟩⟩
  rw [HRE.out] at hd ⊢
  go_wp2
  go_ret2
  exact ⟨HB.out, Or.inl ⟨HD.out, by rw [HRE.out]; rfl⟩⟩
theorem rfind_rng (es : List S58) (u v : Int) : (0 < es.length ∨ (rfind es u v).2 = true) → 0 ≤ (rfind es u v).1 ∧ (rfind es u v).1 < (es.length : Int) := by
 intro h
 unfold rfind at h ⊢
 cases hf : es.findIdx? (isE2 u v) with
 | none =>
  rw [hf] at h
  simp only [Option.map_none, Option.getD_none, Bool.false_eq_true, or_false] at h ⊢
  omega
 | some i =>
  have hi : i < es.length := (List.findIdx?_eq_some_iff_getElem.1 hf).1
  simp only [Option.map_some, Option.getD_some]
  omega
theorem over_nn {a b : Int} (ha : 0 ≤ a) (hb : 0 ≤ b) : 0 ≤ over a b := by
 unfold over mInf
 split <;> omega
theorem arcStep_rng {arcs : List S58} {ws : List Int} {f0 : Int} {s : Int × Int} {i : Int} (h : (0 ≤ s.1 ∧ s.1 ≤ mInf) ∧ (0 ≤ s.2 ∧ s.2 ≤ mInf)) : (0 ≤ (arcStep arcs ws f0 s i).1 ∧ (arcStep arcs ws f0 s i).1 ≤ mInf) ∧ (0 ≤ (arcStep arcs ws f0 s i).2 ∧ (arcStep arcs ws f0 s i).2 ≤ mInf) := by
 unfold arcStep
 split
 ·exact h
 ·split
  ·dsimp only; omega
  ·dsimp only; omega
theorem arcsS_rng (arcs : List S58) (ws : List Int) (f0 : Int) : ∀ (l : List Int) (s : Int × Int), ((0 ≤ s.1 ∧ s.1 ≤ mInf) ∧ (0 ≤ s.2 ∧ s.2 ≤ mInf)) → (0 ≤ (l.foldl (arcStep arcs ws f0) s).1 ∧ (l.foldl (arcStep arcs ws f0) s).1 ≤ mInf) ∧ (0 ≤ (l.foldl (arcStep arcs ws f0) s).2 ∧ (l.foldl (arcStep arcs ws f0) s).2 ≤ mInf)
 | [], s, h => h
 | x :: l, s, h => arcsS_rng arcs ws f0 l _ (arcStep_rng h)
theorem lowStep_rng {fnd : Int → Int → Int} {up dn : List Int} {f0 f1 : Int} (hu : ∀ x ∈ up, 0 ≤ x ∧ x ≤ mInf) (hd : ∀ x ∈ dn, 0 ≤ x ∧ x ≤ mInf) : ∀ (l : List Int) (s : Int × Int), ((0 ≤ s.1 ∧ s.1 ≤ mInf) ∧ (0 ≤ s.2 ∧ s.2 ≤ mInf)) → (0 ≤ (l.foldl (lowStep fnd up dn f0 f1) s).1 ∧ (l.foldl (lowStep fnd up dn f0 f1) s).1 ≤ mInf) ∧ (0 ≤ (l.foldl (lowStep fnd up dn f0 f1) s).2 ∧ (l.foldl (lowStep fnd up dn f0 f1) s).2 ≤ mInf)
 | [], s, h => h
 | x :: l, s, h => by
  refine lowStep_rng hu hd l _ ?_
  unfold lowStep
  have h1 := over_nn (getD_bound hd (fnd x f0).toNat).1 (getD_bound hu (fnd x f1).toNat).1
  have h2 := over_nn (getD_bound hd (fnd x f1).toNat).1 (getD_bound hu (fnd x f0).toNat).1
  dsimp only
  omega
theorem weightsS_rng {n : Nat} {arcs : List S58} {R : List Int} {S : HSt} {ws : List Int} {ar : List (List Int)} {up dn : List Int} (hu : ∀ x ∈ up, 0 ≤ x ∧ x ≤ mInf) (hd : ∀ x ∈ dn, 0 ≤ x ∧ x ≤ mInf) (e : Nat) :
  (0 ≤ (weightsS n arcs R S ws ar up dn e).1 ∧ (weightsS n arcs R S ws ar up dn e).1 ≤ mInf) ∧ (0 ≤ (weightsS n arcs R S ws ar up dn e).2 ∧ (weightsS n arcs R S ws ar up dn e).2 ≤ mInf) := by
 unfold weightsS
 refine lowStep_rng hu hd _ _ ?_
 unfold arcsS
 exact arcsS_rng _ _ _ _ _ ⟨⟨by decide, by decide⟩, ⟨by decide, by decide⟩⟩
theorem mem_set_or {l : List Int} {i : Nat} {x y : Int} (h : y ∈ l.set i x) : y ∈ l ∨ y = x := List.mem_or_eq_of_mem_set h
theorem sidesTo_rng (n : Nat) (arcs : List S58) (R : List Int) (S : HSt) (ws : List Int) (ar : List (List Int)) : ∀ k, (∀ x ∈ (sidesTo n arcs R S ws ar k).1, 0 ≤ x ∧ x ≤ mInf) ∧ (∀ x ∈ (sidesTo n arcs R S ws ar k).2, 0 ≤ x ∧ x ≤ mInf)
 | 0 => by
  have h0 : (0 : Int) ≤ 0 ∧ (0 : Int) ≤ mInf := ⟨by decide, by decide⟩
  exact ⟨fun x hx => by rw [List.eq_of_mem_replicate hx]; exact h0, fun x hx => by rw [List.eq_of_mem_replicate hx]; exact h0⟩
 | k + 1 => by
  have ih := sidesTo_rng n arcs R S ws ar k
  have hw := weightsS_rng (n := n) (arcs := arcs) (R := R) (S := S) (ws := ws) (ar := ar) ih.1 ih.2 k
  exact ⟨fun x hx => by
   rcases mem_set_or hx with h | rfl
   ·exact ih.1 x h
   ·exact hw.1, fun x hx => by
   rcases mem_set_or hx with h | rfl
   ·exact ih.2 x h
   ·exact hw.2⟩
theorem arcsTo_rng (n : Nat) (arcs : List S58) (R : List Int) (S : HSt) : ∀ k e, ∀ i ∈ (arcsTo n arcs R S k).getD e [], 0 ≤ i ∧ i < (k : Int)
 | 0, e => by
  intro i hi
  unfold arcsTo at hi
  by_cases h : e < S.edges.length
  ·simp [h] at hi
  ·simp [h] at hi
 | k + 1, e => by
  intro i hi
  have h1 := arcsTo_rng n arcs R S k
  unfold arcsTo at hi
  split at hi
  ·unfold hpush at hi
   rw [getD_set_list] at hi
   split at hi
   ·rw [List.mem_append, List.mem_singleton] at hi
    rcases hi with hi | rfl
    ·have := h1 _ i hi
     omega
    ·omega
   ·have := h1 _ i hi
    omega
  ·have := h1 _ i hi
   omega
theorem dchk_ok {N : Int} {arcs : List S58} {w : List Int} (h : dchk N arcs w = 0) : chk N arcs = 0 ∧ w.length = arcs.length ∧ ∀ x ∈ w, -1 ≤ x ∧ x ≤ 1073741824 := by
 unfold dchk at h
 split at h
 ·rename_i h1
  exact absurd h h1
 ·rename_i h1
  split at h
  ·cases h
  ·rename_i h2
   split at h
   ·cases h
   ·rename_i h3
    refine ⟨Classical.not_not.1 h1, Classical.not_not.1 h2, fun x hx => ?_⟩
    by_cases hb : -1 ≤ x ∧ x ≤ 1073741824
    ·exact hb
    ·exact absurd (findIdx_some_iff.2 ⟨x, hx, by unfold oddW; rw [decide_eq_true_eq]; omega⟩) h3
section
variable {n : Nat} {arcs : List S58} {L : List Int}
def arS (n : Nat) (arcs : List S58) (L : List Int) : List (List Int) := arcsTo n arcs (ranksTo L L.length) (hierS n arcs L) arcs.length
def sdTo (n : Nat) (arcs : List S58) (L ws : List Int) (k : Nat) : List Int × List Int := sidesTo n arcs (ranksTo L L.length) (hierS n arcs L) ws (arS n arcs L) k
def sdS (n : Nat) (arcs : List S58) (L ws : List Int) : List Int × List Int := sdTo n arcs L ws (hierS n arcs L).edges.length
theorem Hk.fnd (h : Hk n arcs L) (u v : Int) (hf : (findS n (ranksTo L L.length) (hierS n arcs L) u v).2 = true) : 0 ≤ (findS n (ranksTo L L.length) (hierS n arcs L) u v).1 ∧ (findS n (ranksTo L L.length) (hierS n arcs L) u v).1 < ((hierS n arcs L).edges.length : Int) := by
 rw [← h.find] at hf ⊢
 exact rfind_rng _ _ _ (.inr hf)
theorem Hk.capd6 (h : Hk n arcs L) (hn : n ≤ 1000) (v : Nat) : ((hierS n arcs L).downs.getD v []).length ≤ 1000000 := by
 have h1 := h.short hn
 by_cases hv : v < n
 ·rw [h.inv.downs v hv]
  have := dnL_len (hierS n arcs L).edges v
  omega
 ·rw [List.getD_eq_getElem?_getD, List.getElem?_eq_none (by rw [h.inv.lend]; omega)]
  simp
theorem Hk.few (h : Hk n arcs L) : (hierS n arcs L).edges.length ≤ n * n := by
 rw [h.edges, List.length_map]
 have h1 : ∀ r, r ≤ n → (rankEdges (plS L (hk0 n L (nbRows n arcs))) r).length ≤ r * n := fun r => by
  induction r with
  | zero => intro _; simp [rankEdges]
  | succ r ih =>
   intro hr
   have h2 := ih (by omega)
   have h3 : (plS L (hk0 n L (nbRows n arcs)) r).length ≤ n := inc_len_n (inc_setOf _) (fun x hx => by
    have := pl_rng (hk0_len h.ord (NGood.start h.chk)) (hk0_up h.ord (NGood.start h.chk)) (show r < n by omega) x hx
    omega)
   unfold rankEdges
   rw [List.length_append, List.length_map, Nat.add_mul]
   omega
 exact h1 n (Nat.le_refl _)
theorem Hk.need (h : Hk n arcs L) (hn : n ≤ 1000) (hal : arcs.length ≤ 1000000) {ws : List Int} (hwl : ws.length = arcs.length) {up dn : List Int} (hup : up.length = (hierS n arcs L).edges.length) (hdn : dn.length = (hierS n arcs L).edges.length) (hu : ∀ x ∈ up, 0 ≤ x ∧ x ≤ mInf) (hd : ∀ x ∈ dn, 0 ≤ x ∧ x ≤ mInf) {e : Nat} (he : e < (hierS n arcs L).edges.length) :
  WNeed n arcs (ranksTo L L.length) (hierS n arcs L) ws (arS n arcs L) up dn e := by
 refine ⟨he, h.short hn, hal, arcsTo_len _ _ _ _ _, hwl, hup, hdn, fun i hi => arcsTo_rng _ _ _ _ _ _ i hi, ?_, hu, hd, ?_, fun x hx v hv => ?_⟩
 ·have := arcsTo_cap n arcs (ranksTo L L.length) (hierS n arcs L) arcs.length e
  unfold arS
  omega
 ·unfold lowerS
  split
  ·exact Nat.le_trans (List.length_filter_le _ _) (h.capd6 hn _)
  ·simp
 ·rw [← h.find]
  exact rfind_rng _ _ _ (.inl (by omega))
theorem Hk.needs (h : Hk n arcs L) (hn : n ≤ 1000) (hal : arcs.length ≤ 1000000) {ws : List Int} (hd : dchk (n : Int) arcs ws = 0) (k : Nat) (hk : k < (hierS n arcs L).edges.length) :
  WNeed n arcs (ranksTo L L.length) (hierS n arcs L) ws (arcsTo n arcs (ranksTo L L.length) (hierS n arcs L) arcs.length) (sidesTo n arcs (ranksTo L L.length) (hierS n arcs L) ws (arcsTo n arcs (ranksTo L L.length) (hierS n arcs L) arcs.length) k).1 (sidesTo n arcs (ranksTo L L.length) (hierS n arcs L) ws (arcsTo n arcs (ranksTo L L.length) (hierS n arcs L) arcs.length) k).2 k :=
 h.need hn hal (dchk_ok hd).2.1 (sidesTo_len _ _ _ _ _ _ _).1 (sidesTo_len _ _ _ _ _ _ _).2 (sidesTo_rng _ _ _ _ _ _ _).1 (sidesTo_rng _ _ _ _ _ _ _).2 hk
theorem custom_New.of {w : World} {p : Nat} (h : Hk n arcs L) (hn : n ≤ 100) (hH : HierOf w p n arcs L) (hal : arcs.length ≤ 1000000) {wA : Option Addr} {wc : Nat} {ws : List Int} (hw : Kd.C (Kd.int .i64) w wA ws.length ws) (hwc : ws.length ≤ wc) (hwl : ws.length ≤ 1000000) :
  Calls Try.prog 46 #[.pointer (some ⟨p, 0, none⟩), .slice wA ws.length wc] w fun e w' => Below w.heap.size w w' ∧ ((dchk (n : Int) arcs ws ≠ 0 ∧ e = .returned (.tuple #[.pointer none, .int .i64 (dchk (n : Int) arcs ws)])) ∨
   (dchk (n : Int) arcs ws = 0 ∧ ∃ q o wv uv dv Ba va, e = .returned (.tuple #[.pointer (some ⟨q, 0, none⟩), .int .i64 0]) ∧ MetO w' w.heap.size q p o wv uv dv Ba va ws (arS n arcs L) (sdS n arcs L ws).1 (sdS n arcs L ws).2)) :=
 custom_New.calls hH h.lenR h.ok h.ends (h.capd (by omega)) hal (by
  have h1 := h.few
  have h2 : n * n ≤ 100 * 100 := Nat.mul_le_mul hn hn
  omega) hw hwc hwl (fun u v hf => h.fnd u v hf) (fun hd k hk => h.needs (by omega) hal hd k hk)
end
def minL (a : Int) (l : List Int) : Int := l.foldl min a
theorem minL_spec : ∀ (l : List Int) (a : Int), minL a l ≤ a ∧ (∀ x ∈ l, minL a l ≤ x) ∧ (minL a l = a ∨ minL a l ∈ l)
 | [], a => ⟨Int.le_refl _, (fun x hx => by cases hx), Or.inl rfl⟩
 | y :: l, a => by
  obtain ⟨h1, h2, h3⟩ := minL_spec l (min a y)
  have e : minL a (y :: l) = minL (min a y) l := rfl
  rw [e]
  refine ⟨by omega, fun x hx => ?_, ?_⟩
  ·rcases List.mem_cons.1 hx with rfl | hx
   ·omega
   ·exact h2 x hx
  ·rcases h3 with h3 | h3
   ·rw [h3]
    by_cases h4 : a ≤ y
    ·left; omega
    ·right
     have h5 : min a y = y := by omega
     rw [h5]
     simp
   ·right
    exact List.mem_cons_of_mem _ h3
theorem minL_same {a : Int} {l l' : List Int} (h : ∀ x, x ∈ l ↔ x ∈ l') : minL a l = minL a l' := by
 obtain ⟨h1, h2, h3⟩ := minL_spec l a
 obtain ⟨k1, k2, k3⟩ := minL_spec l' a
 have hl : minL a l ≤ minL a l' := by
  rcases k3 with k3 | k3
  ·omega
  ·exact h2 _ ((h _).2 k3)
 have hg : minL a l' ≤ minL a l := by
  rcases h3 with h3 | h3
  ·omega
  ·exact k2 _ ((h _).1 h3)
 omega
theorem minL_append (a : Int) (l l' : List Int) : minL a (l ++ l') = minL (minL a l) l' := List.foldl_append
def rfd (es : List S58) (u v : Int) : Int := ((es.findIdx? (isE2 u v)).map (fun i : Nat => (i : Int))).getD (-1)
def fromM (es : List S58) (up dn : List Int) (u v : Int) : Int :=
 if rfd es u v < 0 ∨ rfd es u v ≥ (up.length : Int) then mInf else if (rd_T58 es (rfd es u v)).f0 = u then rd up (rfd es u v) else rd dn (rfd es u v)
def arcW1 (arcs : List S58) (ws : List Int) (u v : Int) (i : Nat) : List Int := if (rd_T58 arcs (i : Int)).f0 = u ∧ (rd_T58 arcs (i : Int)).f1 = v ∧ rd ws (i : Int) ≥ 0 then [rd ws (i : Int)] else []
def arcW (arcs : List S58) (ws : List Int) (u v : Int) (i d : Nat) : List Int := (List.range' i d).flatMap (arcW1 arcs ws u v)
def viaB (es : List S58) (u v : Int) (i : Nat) : Bool := decide ((rd_T58 es (i : Int)).f1 = u ∧ rfd es (rd_T58 es (i : Int)).f0 v ≥ 0 ∧ (rd_T58 es (rfd es (rd_T58 es (i : Int)).f0 v)).f0 = (rd_T58 es (i : Int)).f0)
def viaW1 (es : List S58) (up dn : List Int) (u v : Int) (i : Nat) : List Int := if viaB es u v i = true then [over (fromM es up dn u (rd_T58 es (i : Int)).f0) (fromM es up dn (rd_T58 es (i : Int)).f0 v)] else []
def viaW (es : List S58) (up dn : List Int) (u v : Int) (i d : Nat) : List Int := (List.range' i d).flatMap (viaW1 es up dn u v)
section
variable (es : List S58) (up dn : List Int) (u v : Int) (hl : es.length ≤ 1000000000) (hd : dn.length = up.length) (hu : ∀ x ∈ up, 0 ≤ x ∧ x ≤ mInf) (hdn : ∀ x ∈ dn, 0 ≤ x ∧ x ≤ mInf)
include hl hd hu hdn
def oneM (es : List S58) (up dn : List Int) (u v : Int) (arcs : List S58) (ws : List Int) : Int := minL mInf (arcW arcs ws u v 0 ws.length ++ viaW es up dn u v 0 es.length)
end
end Go.Proofs.Ytfnophaiamkmpaa.Print
