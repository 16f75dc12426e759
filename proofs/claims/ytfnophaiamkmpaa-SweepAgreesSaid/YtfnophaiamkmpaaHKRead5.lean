import Derived.Test.YtfnophaiamkmpaaM11
namespace Go.Proofs.Ytfnophaiamkmpaa.Print
open Go.RowKit Go.Proofs.YtfnophaiamkmpaaW.PrintWords Go.Proofs.YtfnophaiamkmpaaW.PrintLast Go.Proofs.YtfnophaiamkmpaaW.PrintMore
set_option linter.unusedVariables false
set_option linter.unusedSimpArgs false
set_option maxHeartbeats 1600000 in
set_option maxRecDepth 100000 in
theorem Hier_Graph.calls {w : World} {p n : Nat} {arcs : List S58} {L R : List Int} {S : HSt} (h : HierR w p n arcs L R S) (hs : arcs.length ≤ 1000000000) :
  Calls Try.prog 66 #[.pointer (some ⟨p, 0, none⟩)] w fun e w' => ∃ v : Value, e = .returned (.agg #[.int .i64 (n : Int), v]) ∧ Kd.R k58 58 w' w.heap.size (fun _ => True) v arcs ∧ Below w.heap.size w w' := by
 obtain ⟨gA, gc, oA, oc, rA, rc, eA, ec, mb, uA, uc, dA, dc, h1, h2, h3, h4, h5, _⟩ := h.out
 have hc00 := (blk_cell h1 0).trans rfl
 have hc10 := (blk_cell h1 1).trans rfl
 have HE := Aside0.mk h2.1
 clear h h1 h2 h3 h4 h5
 go_enter Try.func66, Try.ntmps66
 go_upto_region 3 with (fail)
 have HBK := Aside0.mk (heap_alloc_new w (Obj.cells #[.int .i64 0, .slice none 0 0] 24))
 have HBE : Below w.heap.size w (w.alloc (Obj.cells #[.int .i64 0, .slice none 0 0] 24)) := (Below.refl _ _).alloc (Nat.le_refl _) _
 have hc0 := pw_cell_below HBE hc00
 have hc1 := pw_cell_below HBE hc10
 have HE1 := Aside0.mk (Kd.C_below HE.out HBE)
 have HB1 := Aside0.mk HBE
 generalize w.alloc (Obj.cells #[.int .i64 0, .slice none 0 0] 24) = w1 at HBK hc0 hc1 HE1 HB1 ⊢
 clear hc00 hc10 HBE
 refine s_ (fun w' => w'.cell? ⟨p, 0, none⟩ = some (.int .i64 (n : Int)) ∧ w'.cell? ⟨p, 1, none⟩ = some (.slice gA arcs.length gc)) [12] ⟨hc0, hc1⟩ (fun hHeld => ?_)
 refine p_ 0 6 ?_
 refine p_ 1 7 ?_
 refine p_ 2 8 ?_
 refine p_ 3 9 ?_
 refine t2_ 4 10 hHeld ?_
 refine p_ 5 11 ?_
 refine p_ 6 12 ?_
 refine p_ 7 13 ?_
 refine p_ 8 14 ?_
 refine t2_ 9 15 hHeld ?_
 refine o_ 10 16 (fun K hK => ?_)
 refine goes_ Try.func56 (by kernel_rfl) rfl #[.slice gA arcs.length gc] (by rfl) rfl rfl byL ?_
 refine (clone_arcs gA gc arcs _ (Kd.C_drew HE1.out) hs).mono ?_
 rintro e wc ⟨v, rfl, hrc, hbc⟩
 obtain ⟨Av, cv, rfl⟩ := Kd.R_slice hrc
 refine ⟨_, rfl, ?_⟩
 refine hK.out _ _ ⟨pw_cell_below hbc hHeld.1, pw_cell_below hbc hHeld.2⟩ (fun hHeld => ?_)
 have HR := Aside0.mk hrc
 have HBC := Aside0.mk hbc
 clear hK K hbc hrc
 refine n_ 16 ?_
 refine p_ 11 17 ?_
 have HBK2 := Aside0.mk (blk_below (blk_below HBK.out (below_drew (Below.refl _ _))) HBC.out)
 have hf0 : wc.frozen? ⟨w.heap.size, 0, none⟩ = false := blk_frozen HBK2.out 0
 have hf1 : wc.frozen? ⟨w.heap.size, 1, none⟩ = false := blk_frozen HBK2.out 1
 have hk0 := (blk_cell HBK2.out 0).trans rfl
 have hk1 := (blk_cell HBK2.out 1).trans rfl
 refine l_ 12 (fun K hK => ?_)
 refine skip_ (w1 := ?_) (by rfl) rfl ?_ ?_
 rotate_left; (·go_simp; rfl)
 refine hK.out _ _ ?_
 clear hK K hHeld
 refine d_ ?_
 have HB5 : Aside0 (((wc.setCell ⟨w.heap.size, 0, none⟩ (.int .i64 (n : Int))).setCell ⟨w.heap.size, 1, none⟩ (.slice Av arcs.length cv)).heap[w.heap.size]? = some (.cells #[.int .i64 (n : Int), .slice Av arcs.length cv] 24 (0, 0))) := ⟨by simp [World.setCell, Array.getElem?_modify, HBK2.out]⟩
 have HW : Aside0 (Below w.heap.size w ((wc.setCell ⟨w.heap.size, 0, none⟩ (.int .i64 (n : Int))).setCell ⟨w.heap.size, 1, none⟩ (.slice Av arcs.length cv))) := ⟨hput (hput (below_step HB1.out (below_step (below_drew (Below.refl _ _)) HBC.out)) _ _ (Nat.le_refl _)) _ _ (Nat.le_refl _)⟩
 have hne : ∀ k, (Value.slice Av arcs.length cv).ownBlock = some k → w.heap.size < k := fun k hk => by
  have h1 := ((Kd.R_bound HR.out).1 k hk).2.1
  have h2 : w.heap.size < w1.heap.size := hblk_lt HBK.out
  exact Nat.lt_of_lt_of_le h2 h1
 have HR1 : Aside0 (Kd.R k58 58 ((wc.setCell ⟨w.heap.size, 0, none⟩ (.int .i64 (n : Int))).setCell ⟨w.heap.size, 1, none⟩ (.slice Av arcs.length cv)) w.heap.size (fun _ => True) (.slice Av arcs.length cv) arcs) := ⟨by
  have h0 := Kd.R_lower HR.out (base' := w.heap.size) HB1.out.size
  have h1 := Kd.R_reok (ok := fun k => w.heap.size < k) rfl h0 hne
  refine Kd.R_mono (Kd.R_far (p := ⟨w.heap.size, 1, none⟩) (Kd.R_far (p := ⟨w.heap.size, 0, none⟩) h1 ?_ _) ?_ _) (fun _ _ => trivial)
  ·intro k hk e
   exact absurd hk (by rw [show k = w.heap.size from e]; omega)
  ·intro k hk e
   exact absurd hk (by rw [show k = w.heap.size from e]; omega)⟩
 generalize (wc.setCell ⟨w.heap.size, 0, none⟩ (.int .i64 (n : Int))).setCell ⟨w.heap.size, 1, none⟩ (.slice Av arcs.length cv) = w9 at HB5 HW HR1 ⊢
 clear hk0 hk1 hf0 hf1 hc0 hc1
 go_wp2
 refine bodyPost_ret (results_cell_row rfl _ _ w.heap.size 24 #[.int .i64 (n : Int), .slice Av arcs.length cv] (0, 0) _ rfl HB5.out Try.underlying24 rfl (by kernel_rfl)) rfl ?_
 exact ⟨_, rfl, HR1.out, HW.out⟩
end Go.Proofs.Ytfnophaiamkmpaa.Print
