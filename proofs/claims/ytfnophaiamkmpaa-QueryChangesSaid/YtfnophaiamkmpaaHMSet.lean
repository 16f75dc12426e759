import Derived.Test.YtfnophaiamkmpaaM30
namespace Go.Proofs.Ytfnophaiamkmpaa.Print
open Go.RowKit Go.Proofs.YtfnophaiamkmpaaW.PrintWords Go.Proofs.YtfnophaiamkmpaaW.PrintLast Go.Proofs.YtfnophaiamkmpaaW.PrintMore
set_option linter.unusedVariables false
set_option linter.unusedSimpArgs false
theorem permL_ok {m : Int} : ∀ (al vs : List Int), al.length = vs.length → permL m al vs = 0 → ∀ j, j < al.length → (0 ≤ al.getD j 0 ∧ al.getD j 0 < m) ∧ (-1 ≤ vs.getD j 0 ∧ vs.getD j 0 ≤ 1073741824)
 | [], _, _, _, j, hj => by cases hj
 | a :: al, [], hl, _, j, hj => by cases hl
 | a :: al, v :: vs, hl, h, j, hj => by
  unfold permL at h
  split at h
  ·cases h
  ·split at h
   ·cases h
   ·rename_i h1 h2
    cases j with
    | zero =>
     show (0 ≤ a ∧ a < m) ∧ (-1 ≤ v ∧ v ≤ 1073741824)
     omega
    | succ j => exact permL_ok al vs (by simpa using hl) h j (by simpa using hj)
theorem permC_ok {m : Int} {al vs : List Int} (h : permC m al vs = 0) : al.length = vs.length ∧ ∀ j, j < al.length → (0 ≤ al.getD j 0 ∧ al.getD j 0 < m) ∧ (-1 ≤ vs.getD j 0 ∧ vs.getD j 0 ≤ 1073741824) := by
 unfold permC at h
 split at h
 ·rename_i hl
  exact ⟨hl, permL_ok al vs hl h⟩
 ·cases h
theorem wsTo_len (ws al vs : List Int) : ∀ k, (wsTo ws al vs k).length = ws.length
 | 0 => rfl
 | k + 1 => (List.length_set ..).trans (wsTo_len ws al vs k)
theorem pdTo_len (n : Nat) (R : List Int) (S : HSt) (arcs : List S58) (al : List Int) : ∀ k, (pdTo n R S arcs al k).length = S.edges.length
 | 0 => List.length_replicate ..
 | k + 1 => (markS_len ..).trans (pdTo_len n R S arcs al k)
theorem upMark_len (n : Nat) (R : List Int) (S : HSt) (e : Nat) : ∀ (fs : List Int) (pd : List Bool), (upMark n R S e pd fs).length = pd.length
 | [], pd => rfl
 | f :: fs, pd => by
  show (upMark n R S e (upMark1 n R S e pd f) fs).length = _
  rw [upMark_len n R S e fs]
  unfold upMark1
  split
  ·rfl
  ·exact markS_len ..
structure SOk (m : Nat) (st : SSt) (k : Nat) : Prop where
 lu : st.up.length = m
 ld : st.dn.length = m
 lp : st.pd.length = m
 bu : ∀ x ∈ st.up, 0 ≤ x ∧ x ≤ mInf
 bd : ∀ x ∈ st.dn, 0 ≤ x ∧ x ≤ mInf
 ch : st.ch ≤ k
theorem setE_ok {n : Nat} {arcs : List S58} {R : List Int} {S : HSt} {ws : List Int} {ar : List (List Int)} {m : Nat} {st : SSt} {k : Nat} (h : SOk m st k) : SOk m (setE n arcs R S ws ar st k) (k + 1) := by
 unfold setE
 split
 ·split
  ·exact ⟨h.lu, h.ld, h.lp, h.bu, h.bd, Nat.le_succ_of_le h.ch⟩
  ·have hw := weightsS_rng (n := n) (arcs := arcs) (R := R) (S := S) (ws := ws) (ar := ar) h.bu h.bd k
   exact ⟨(List.length_set ..).trans h.lu, (List.length_set ..).trans h.ld, (upMark_len ..).trans h.lp, fun x hx => by
    rcases mem_set_or hx with h1 | rfl
    ·exact h.bu x h1
    ·exact hw.1, fun x hx => by
    rcases mem_set_or hx with h1 | rfl
    ·exact h.bd x h1
    ·exact hw.2, Nat.succ_le_succ h.ch⟩
 ·exact ⟨h.lu, h.ld, h.lp, h.bu, h.bd, Nat.le_succ_of_le h.ch⟩
theorem setTo_ok {n : Nat} {arcs : List S58} {R : List Int} {S : HSt} {ws : List Int} {ar : List (List Int)} {m : Nat} {st : SSt} (h : SOk m st 0) : ∀ k, SOk m (setTo n arcs R S ws ar st k) k
 | 0 => h
 | k + 1 => setE_ok (setTo_ok h k)
theorem upS_len {n : Nat} {S : HSt} (h : ∀ v, (S.ups.getD v []).length ≤ 1000000) (v : Int) : (upS n S v).length ≤ 1000000 := by
 unfold upS
 split
 ·exact h _
 ·simp
theorem infoBool1 : (Try.prog.info? 4).map (fun i => (i.zero, i.size, i.bytes)) = some (some (.bool false), 1, 1) := by kernel_rfl
abbrev falses (n : Nat) : Array Value := madeCells #[.bool false] n
theorem run_falses (n : Nat) (hn : n ≤ 2000000) (w : World) : (Instr.makeSlice 83 (.int .i64 (n : Int)) (.int .i64 (n : Int))).run Try.prog w = .ok (.slice (some ⟨w.heap.size, 0, none⟩) n n) (w.alloc (.cells (falses n) 4 (0, 0))) := by
 obtain ⟨i, h1, hh⟩ := Option.map_eq_some_iff.1 infoBool1
 simp only [Prod.mk.injEq] at hh
 obtain ⟨h2, h3, h4⟩ := hh
 have := run_makeSlice (P := Try.prog) w 83 4 i (.bool false) Try.underlying83 h1 h2 .i64 .i64 n n (by omega) (by omega) (by rw [h3]; simp; omega) (by rw [h4]; omega) (by omega)
 rw [this, h3]
 simp [falses, Value.cells]
theorem false_row (w : World) (base n : Nat) (hb : base ≤ w.heap.size) (hn : n ≤ 2000000) : Kd.R Kd.bool 4 (w.alloc (.cells (falses n) 4 (0, 0))) base (fun _ => True) (.slice (some ⟨w.heap.size, 0, none⟩) n n) (List.replicate n false) :=
 Kd.R_of_own (enc := Value.bool) (by
  have h := World.ownsRow_lit (base := base) (e := 4) (size := 1) w (falses n) n hb (by simpa [maxLen] using (show n ≤ 9223372036854775807 by omega)) (by simp [falses, size_madeCells])
  have hl : (falses n).toList = encs Value.bool (List.replicate n false) := by
   apply List.ext_getElem
   ·simp [encs, falses, madeCells]
   ·intro i h1 h2
    simp [encs, falses, madeCells, Nat.mod_one]
  rw [List.length_replicate, ← hl]
  exact h) (fun _ _ => trivial)
set_option maxHeartbeats 12800000 in
set_option maxRecDepth 100000 in
theorem Metric_Set.calls {w W0 : World} {base q p n : Nat} {arcs : List S58} {L R : List Int} {S : HSt} {o : Tags} {wv uv dv : Value} {Ba : Nat} {va : Nat → Value} {ws : List Int} {ar : List (List Int)} {up dn : List Int} {aA : Option Addr} {ac : Nat} {al : List Int} {vA : Option Addr} {vc : Nat} {vs : List Int}
  (hM : MetO w base q p o wv uv dv Ba va ws ar up dn) (hh : HierR W0 p n arcs L R S) (hb : base = W0.heap.size) (h0 : Below base W0 w) (hR : R.length = n) (hok : HOk n S) (hend : ∀ a ∈ S.edges, 0 ≤ a.f0 ∧ a.f0 < (n : Int)) (hs : ∀ v, (S.downs.getD v []).length ≤ 1000000000) (hcu : ∀ v, (S.ups.getD v []).length ≤ 1000000)
  (hal : arcs.length ≤ 1000000) (hel : S.edges.length ≤ 20000) (hf : ∀ u v, (findS n R S u v).2 = true → 0 ≤ (findS n R S u v).1 ∧ (findS n R S u v).1 < (S.edges.length : Int)) (hup : ∀ v, ∀ f ∈ upS n S v, 0 ≤ f ∧ f < (S.edges.length : Int))
  (hwl : ws.length = arcs.length) (hul : up.length = S.edges.length) (hdl : dn.length = S.edges.length) (harl : ar.length = S.edges.length) (hub : ∀ x ∈ up, 0 ≤ x ∧ x ≤ mInf) (hdb : ∀ x ∈ dn, 0 ≤ x ∧ x ≤ mInf)
  (hneed : ∀ (ws' up dn : List Int) (e : Nat), ws'.length = arcs.length → up.length = S.edges.length → dn.length = S.edges.length → (∀ x ∈ up, 0 ≤ x ∧ x ≤ mInf) → (∀ x ∈ dn, 0 ≤ x ∧ x ≤ mInf) → e < S.edges.length → WNeed n arcs R S ws' ar up dn e)
  (ha : ∀ W', Bel (MT wv uv dv) w W' → Kd.C (Kd.int .i64) W' aA al.length al) (hv : ∀ W', Bel (MT wv uv dv) w W' → Kd.C (Kd.int .i64) W' vA vs.length vs) (hll : al.length ≤ 1000000) :
  Calls Try.prog 31 #[.pointer (some ⟨q, 0, none⟩), .slice aA al.length ac, .slice vA vs.length vc] w fun e w' =>
   (permC (ws.length : Int) al vs ≠ 0 ∧ e = .returned (.tuple #[.int .i64 0, .int .i64 (permC (ws.length : Int) al vs)]) ∧ Below w.heap.size w w') ∨
   (permC (ws.length : Int) al vs = 0 ∧ e = .returned (.tuple #[.int .i64 ((setTo n arcs R S (wsTo ws al vs al.length) ar ⟨up, dn, pdTo n R S arcs al al.length, 0⟩ S.edges.length).ch : Int), .int .i64 0]) ∧ Bel (MT wv uv dv) w w' ∧
    ∃ o', MetO w' base q p o' wv uv dv Ba va (wsTo ws al vs al.length) ar (setTo n arcs R S (wsTo ws al vs al.length) ar ⟨up, dn, pdTo n R S arcs al al.length, 0⟩ S.edges.length).up (setTo n arcs R S (wsTo ws al vs al.length) ar ⟨up, dn, pdTo n R S arcs al al.length, 0⟩ S.edges.length).dn) := by
 obtain ⟨o2, HO2⟩ : ∃ o2 : Tags, Aside0 (o2 = fun k => if k < w.heap.size then o k else (0, 0)) := ⟨_, ⟨rfl⟩⟩
 have HM := Aside0.mk (hM.retag (o' := o2) (fun k hk => by rw [HO2.out]; exact if_pos hk))
 have HMT := Aside0.mk hM.mt
 have HBL := Aside0.mk hM.base_le
 have HH := Aside0.mk hh
 have HBB := Aside0.mk hb
 have H0 := Aside0.mk h0
 have HOK := Aside0.mk hok
 have HEND := Aside0.mk hend
 have HS := Aside0.mk hs
 have HCU := Aside0.mk hcu
 have HF := Aside0.mk hf
 have HUP := Aside0.mk hup
 have HWL := Aside0.mk hwl
 have HUL := Aside0.mk hul
 have HDL := Aside0.mk hdl
 have HARL := Aside0.mk harl
 have HUB := Aside0.mk hub
 have HDB := Aside0.mk hdb
 have HNEED := Aside0.mk hneed
 have HA := Aside0.mk ha
 have HV := Aside0.mk hv
 clear hM hh hb h0 hok hend hs hcu hf hup hwl hul hdl harl hub hdb hneed ha hv
 go_enter Try.func31, Try.ntmps31
 go_wp2_with (fail)
 have hb1 : Below w.heap.size w (w.alloc (Obj.cells #[.pointer (some ⟨q, 0, none⟩)] 30)) := (Below.refl _ _).alloc (Nat.le_refl _) _
 have HK3 := Aside0.mk (heap_alloc_new w (Obj.cells #[.pointer (some ⟨q, 0, none⟩)] 30))
 have HB := Aside0.mk hb1
 replace HM := Aside0.mk (HM.out.below hb1)
 clear hb1
 generalize w.alloc (Obj.cells #[.pointer (some ⟨q, 0, none⟩)] 30) = w1 at HK3 HB HM ⊢
 obtain ⟨b3, HB3⟩ : ∃ b, Aside0 (w.heap.size = b) := ⟨_, ⟨rfl⟩⟩
 rw [HB3.out] at HK3 ⊢
 refine (Metric_permitted.calls (HM.out.reads (by rw [HARL.out]; omega)) (HA.out _ ((Bel.refl _ _).below HB.out)) (HV.out _ ((Bel.refl _ _).below HB.out)) (by rw [HWL.out]; exact hal) hll).mono ?_
 rintro e w2 ⟨rfl, rfl⟩
 by_cases hpc : permC (ws.length : Int) al vs = 0
 ·have HPC := Aside0.mk hpc
  rw [hpc]
  clear hpc
  have hc3 := (blk_cell HK3.out 0).trans rfl
  go_upto_region 6 with (fail)
  refine set_region (q := q) (p := p) (n := n) (arcs := arcs) (L := L) (R := R) (S := S) (b3 := b3) (W0 := w2) ⟨hc3, (blk_cell HM.out.blk 0).trans rfl⟩ (HH.out.below (by
   rw [← HBB.out]
   exact below_tr H0.out ⟨HB.out.os, HB.out.tape, HB.out.output, HB.out.size, fun i hi => HB.out.block i (Nat.lt_of_lt_of_le hi HBL.out)⟩)) (by omega) (by omega) (fun _ _ _ d _ h => by cases d <;> exact h) ?_ ⟨below_drew (Below.refl _ _), fun h => absurd h (by decide), fun h => absurd h (by decide), fun h => absurd h (by decide)⟩
  intro w3 gA gc eA ec B hinv
  obtain ⟨gA', gc', e35, hrG⟩ := hinv.hG (by decide)
  obtain ⟨rfl, rfl⟩ : gA = gA' ∧ gc = gc' := by simpa using e35
  obtain ⟨eA', ec', e40, hrE⟩ := hinv.hE (by decide)
  obtain ⟨rfl, rfl⟩ : eA = eA' ∧ ec = ec' := by simpa using e40
  obtain ⟨B', e9, hBk, hBl⟩ := hinv.hA rfl
  obtain rfl : B = B' := by simpa using e9
  have hbw2 : Below w2.heap.size w2 ((w3.setCell ⟨B, 0, none⟩ (.int .i64 (n : Int))).setCell ⟨B, 1, none⟩ (.slice gA arcs.length gc)) := hput (hput hinv.bel _ _ hBl) _ _ hBl
  have hlt3 : b3 < w2.heap.size := hblk_lt HK3.out
  have hlw : w.heap.size ≤ w2.heap.size := HB.out.size
  have HGB : Aside0 (((w3.setCell ⟨B, 0, none⟩ (.int .i64 (n : Int))).setCell ⟨B, 1, none⟩ (.slice gA arcs.length gc)).heap[B]? = some (.cells #[.int .i64 (n : Int), .slice gA arcs.length gc] 24 (0, 0))) := ⟨by simp [World.setCell, Array.getElem?_modify, hBk]⟩
  have hrr : ∀ {v : Value} {xs : List S58}, Kd.R k58 58 w3 w2.heap.size (fun _ => True) v xs → Kd.R k58 58 ((w3.setCell ⟨B, 0, none⟩ (.int .i64 (n : Int))).setCell ⟨B, 1, none⟩ (.slice gA arcs.length gc)) w.heap.size (fun _ => True) v xs := fun {v xs} hr => by
   have h1 := Kd.R_types hr hBk (by decide)
   have h2 := Kd.R_far (p := ⟨B, 0, none⟩) h1 (fun k hk => hk.2) (.int .i64 (n : Int))
   have h3 := Kd.R_far (p := ⟨B, 1, none⟩) h2 (fun k hk => hk.2) (.slice gA arcs.length gc)
   exact Kd.R_lower (Kd.R_mono h3 (fun _ _ => trivial)) hlw
  have HGR := Aside0.mk (hrr hrG)
  have HER := Aside0.mk (hrr hrE)
  replace HK3 := Aside0.mk (blk_below HK3.out hbw2)
  replace HM := Aside0.mk (HM.out.below hbw2)
  replace HB := Aside0.mk (below_then HB.out HB.out.size hbw2)
  have HLB : Aside0 (w.heap.size ≤ B) := ⟨Nat.le_trans hlw hBl⟩
  clear hinv e35 hrG e40 hrE e9 hBk hBl hbw2 hrr hc3 hlt3 hlw
  generalize (w3.setCell ⟨B, 0, none⟩ (.int .i64 (n : Int))).setCell ⟨B, 1, none⟩ (.slice gA arcs.length gc) = w4 at HGB HGR HER HK3 HM HB ⊢
  obtain ⟨m, HME⟩ : ∃ m, Aside0 (S.edges.length = m) := ⟨_, ⟨rfl⟩⟩
  rw [HME.out] at hel HER ⊢
  have hmk := run_falses m (by omega)
  go_wp2_with (fail)
  have hmk2 := hmk
  clear hmk hmk2
  have hbp5 : Below w4.heap.size w4 (w4.alloc (Obj.cells (falses m) 4)) := (Below.refl _ _).alloc (Nat.le_refl _) _
  have s5 : (w4.alloc (Obj.cells (falses m) 4)).heap.size = w4.heap.size + 1 := World.size_alloc ..
  have hlw4 : w.heap.size ≤ w4.heap.size := HB.out.size
  have HPD := Aside0.mk (false_row w4 w.heap.size m hlw4 (by omega))
  have HBP := Aside0.mk (heap_alloc_new w4 (Obj.cells (falses m) 4))
  replace HGB := Aside0.mk (blk_below HGB.out hbp5)
  replace HGR := Aside0.mk (Kd.R_below HGR.out hbp5)
  replace HER := Aside0.mk (Kd.R_below HER.out hbp5)
  replace HK3 := Aside0.mk (blk_below HK3.out hbp5)
  replace HM := Aside0.mk (HM.out.below hbp5)
  replace HB := Aside0.mk (below_then HB.out HB.out.size hbp5)
  clear hbp5
  generalize w4.alloc (Obj.cells (falses m) 4) = w5 at HPD HBP HGB HGR HER HK3 HM HB s5 ⊢
  have hbp6 : Below w5.heap.size w5 (w5.alloc (Obj.cells #[.slice (some ⟨w4.heap.size, 0, none⟩) m m] 83)) := (Below.refl _ _).alloc (Nat.le_refl _) _
  have hk11 := heap_alloc_new w5 (Obj.cells #[.slice (some ⟨w4.heap.size, 0, none⟩) m m] 83)
  rw [s5] at hk11
  have HC : Aside0 (SetC w _ W0 base q p n b3 (w4.heap.size + 1) w4.heap.size B m arcs L R S gA gc eA ec o2 wv uv dv) := ⟨⟨blk_below HK3.out hbp6, hk11, blk_below HGB.out hbp6, Kd.R_below HGR.out hbp6, Kd.R_below HER.out hbp6, ⟨_, blk_below HBP.out hbp6⟩, by rw [HB3.out]; exact Nat.le_refl _, by omega, HLB.out, hlw4, HH.out, HBB.out, H0.out, below_then HB.out HB.out.size hbp6, HMT.out, fun k hk => by rw [HO2.out]; exact if_neg (by omega), HBL.out⟩⟩
  have HI : Aside0 (SetI w _ _ base q p w4.heap.size m o2 wv uv dv Ba va ws ar up dn (List.replicate m false)) := ⟨⟨Bel.refl _ _, HM.out.below hbp6, Kd.R_below HPD.out hbp6⟩⟩
  clear HK3 hk11 HGB HGR HER HBP HPD hbp6 HM HB s5 hlw4 HLB
  generalize w5.alloc (Obj.cells #[.slice (some ⟨w4.heap.size, 0, none⟩) m m] 83) = w6 at HC HI ⊢
  generalize w4.heap.size + 1 = b11 at HC ⊢
  generalize w4.heap.size = Bp at HC HI ⊢
  obtain ⟨nw, HNW⟩ : ∃ x, Aside0 (ws.length = x) := ⟨_, ⟨rfl⟩⟩
  have HOKJ := Aside0.mk (permC_ok HPC.out)
  rw [HNW.out] at HOKJ HPC
  have hnw : nw ≤ 1000000 := by rw [← HNW.out, HWL.out]; exact hal
  go_loopw [47] (fun i wr => ∃ (k : Nat), i = .int .i64 (k : Int) ∧ k ≤ al.length ∧ Aside0 (SetI w w6 wr base q p Bp m o2 wv uv dv Ba va (wsTo ws al vs k) ar up dn (pdTo n R S arcs al k))) (fun i _ => al.length - (intOf i).toNat)
  case atStart => exact ⟨0, rfl, Nat.zero_le _, ⟨by unfold pdTo wsTo; rw [HME.out]; exact HI.out⟩⟩
  case round =>
   clear HI
   obtain ⟨k, rfl, hk, HI⟩ := hrel
   by_cases hkl : k < al.length
   ·have hj := HOKJ.out.2 k hkl
    have hkv : k < vs.length := by rw [← HOKJ.out.1]; exact hkl
    rcases cells_of_C (HA.out wr (HC.out.belw HI.out)) with ⟨hz, _⟩ | ⟨_, ab, ao, hA1, hce⟩
    ·omega
    subst hA1
    have hca := hce k hkl
    clear hce
    rcases cells_of_C (HV.out wr (HC.out.belw HI.out)) with ⟨hz, _⟩ | ⟨_, vb, vo, hA1, hce⟩
    ·omega
    subst hA1
    have hcv := hce k hkv
    clear hce
    obtain ⟨a, HAK⟩ : ∃ a : Nat, Aside0 (al.getD k 0 = (a : Int)) := ⟨(al.getD k 0).toNat, ⟨(Int.toNat_of_nonneg hj.1.1).symm⟩⟩
    rw [HAK.out] at hca hj
    have han : a < nw := by omega
    have HWS : Aside0 (wsTo ws al vs (k + 1) = (wsTo ws al vs k).set a (vs.getD k 0)) := ⟨by
     show (wsTo ws al vs k).set (al.getD k 0).toNat (vs.getD k 0) = _
     rw [HAK.out, Int.toNat_natCast]⟩
    have HPDN : Aside0 (pdTo n R S arcs al (k + 1) = markS n R S (pdTo n R S arcs al k) (rd_T58 arcs (a : Int)).f0 (rd_T58 arcs (a : Int)).f1) := ⟨by
     show markS n R S (pdTo n R S arcs al k) (rd_T58 arcs (al.getD k 0)).f0 (rd_T58 arcs (al.getD k 0)).f1 = _
     rw [HAK.out]⟩
    obtain ⟨y, HY⟩ : ∃ y, Aside0 (vs.getD k 0 = y) := ⟨_, ⟨rfl⟩⟩
    rw [HY.out] at hcv HWS
    have hwsl : (wsTo ws al vs k).length = nw := (wsTo_len ws al vs k).trans HNW.out
    obtain ⟨wg, wcap, hwv, _, _, _⟩ := Kd.R_form HI.out.met.wr (by omega)
    rw [hwsl] at hwv
    have HWV := Aside0.mk hwv
    have hcq1 := (blk_cell HI.out.met.blk 1).trans rfl
    have hcq1' : wr.cell? ⟨q, 1, none⟩ = some (.slice (some ⟨wg, 0, none⟩) nw wcap) := by rw [← hwv]; exact hcq1
    have hcb3 : wr.cell? ⟨b3, 0, none⟩ = some (.pointer (some ⟨q, 0, none⟩)) := blk_cell (HC.out.blk HI.out HC.out.k3 (by decide) HC.out.lo3) 0
    have HWSL := Aside0.mk hwsl
    clear hwv hcq1 hwsl hj
    go_upto_region 12 with (fail)
    refine s_ (fun w' => w'.cell? ⟨b3, 0, none⟩ = some (.pointer (some ⟨q, 0, none⟩)) ∧ w'.cell? ⟨q, 1, none⟩ = some (.slice (some ⟨wg, 0, none⟩) nw wcap) ∧ w'.cell? ⟨vb, vo + k, none⟩ = some (.int .i64 y)) [10] ⟨hcb3, hcq1', hcv⟩ (fun hHeld => ?_)
    replace HI := Aside0.mk (HI.out.fresh (below_drew (Below.refl _ _)))
    generalize wr.drew = wd at HI hHeld ⊢
    clear hcb3 hcq1' hcv hca
    refine t3_ 0 52 hHeld ?_
    refine p_ 1 53 ?_
    refine p_ 2 54 ?_
    refine t3_ 3 55 hHeld ?_
    refine p_ 4 56 ?_
    refine p_ 5 57 ?_
    refine p_ 6 58 ?_
    refine p_ 7 59 ?_
    refine t3_ 8 60 hHeld ?_
    refine p_ 9 61 ?_
    have hcu := Kd.R_cell (enc := Value.int .i64) (h1 := fun _ => rfl) (0 : Int) (cap := wcap) (g := wg) (by rw [HWSL.out, ← HWV.out]; exact HI.out.met.wr) (a : Int) (by omega) (by rw [HWSL.out]; omega)
    rw [Int.toNat_natCast] at hcu
    obtain ⟨hcu, hfu⟩ := hcu
    have HI2 := Aside0.mk (HI.out.putW (g := wg) (c := wcap) (by rw [HWSL.out]; exact HWV.out) a y)
    refine l_ 10 (fun K hK => ?_)
    refine skip_ (w1 := ?_) (by rfl) rfl ?_ ?_
    rotate_left; (·go_simp; rfl)
    refine hK.out _ _ ?_
    clear hK K hcu hfu hHeld HI
    refine d_ ?_
    rw [← HWS.out] at HI2
    generalize wd.setCell ⟨wg, a, none⟩ (.int .i64 y) = w7 at HI2 ⊢
    have hgb1 : w7.cell? ⟨B, 1, none⟩ = some (.slice gA arcs.length gc) := blk_cell (HC.out.blk HI2.out HC.out.gb (by decide) HC.out.loB) 1
    have haa : a < arcs.length := by rw [← HWL.out, HNW.out]; exact han
    obtain ⟨ge, hA2, hx0, hx1⟩ := at_T58 (Kd.R_reads' (HC.out.rows HI2.out HC.out.gr)).2.2 (a : Int) (by omega) (by omega)
    obtain ⟨ge2, hA3, hz0, _⟩ := at_T58 (Kd.R_reads' (HC.out.rows HI2.out HC.out.gr)).2.2 0 (by omega) (by omega)
    obtain rfl : ge2 = ge := Option.some.inj (hA3.symm.trans hA2)
    have hsp := spot_of_cell (ad := ge2) (by exact hz0)
    obtain ⟨gb, go, gsb⟩ := ge2
    injection hsp with hz1 hz2 hes
    clear hz1 hz2 hz0 hA3
    subst hes
    simp only [Addr.add_lit, Int.toNat_natCast] at hx0 hx1
    subst hA2
    obtain ⟨x0, HX0⟩ : ∃ x, Aside0 ((rd_T58 arcs (a : Int)).f0 = x) := ⟨_, ⟨rfl⟩⟩
    obtain ⟨x1, HX1⟩ : ∃ x, Aside0 ((rd_T58 arcs (a : Int)).f1 = x) := ⟨_, ⟨rfl⟩⟩
    rw [HX0.out] at hx0 HPDN
    rw [HX1.out] at hx1 HPDN
    go_wp2_with (fail)
    have hcb3 : w7.cell? ⟨b3, 0, none⟩ = some (.pointer (some ⟨q, 0, none⟩)) := blk_cell (HC.out.blk HI2.out HC.out.k3 (by decide) HC.out.lo3) 0
    refine s_ (fun w' => w'.cell? ⟨B, 1, none⟩ = some (.slice (some ⟨gb, go, none⟩) arcs.length gc) ∧ w'.cell? ⟨gb, go + a * 2, none⟩ = some (.int .i64 x0) ∧ w'.cell? ⟨gb, go + a * 2 + 1, none⟩ = some (.int .i64 x1)) [13] ⟨hgb1, hx0, hx1⟩ (fun hHeld => ?_)
    replace HI2 := Aside0.mk (HI2.out.fresh (below_drew (Below.refl _ _)))
    generalize w7.drew = wd at HI2 hHeld ⊢
    clear hcb3 hgb1 hx0 hx1
    refine p_ 0 62 ?_
    refine p_ 1 63 ?_
    refine t3_ 2 64 hHeld ?_
    refine p_ 3 65 ?_
    refine p_ 4 66 ?_
    refine p_ 5 67 ?_
    refine t3_ 6 68 hHeld ?_
    refine p_ 7 69 ?_
    refine t3_ 8 70 hHeld ?_
    refine p_ 9 71 ?_
    refine p_ 10 72 ?_
    refine p_ 11 73 ?_
    refine t3_ 12 74 hHeld ?_
    refine ld_ 13 75 (fun K hK => ?_)
    refine goesVC_ (caps := #[.pointer (some ⟨b3, 0, none⟩), .pointer (some ⟨b11, 0, none⟩)]) Try.func67 (by kernel_rfl) rfl #[.int .i64 x0, .int .i64 x1, .pointer (some ⟨b3, 0, none⟩), .pointer (some ⟨b11, 0, none⟩)] (by rfl) rfl rfl rfl (by first | rfl | (simp only [List.map_toArray, List.map_cons, List.map_nil]; rfl)) ?_
    refine (Set_mark.calls (ok := fun _ => True) (HC.out.hier HI2.out) hR (by rw [← HME.out]; exact HF.out) (blk_cell (HC.out.blk HI2.out HC.out.k3 (by decide) HC.out.lo3) 0) ((blk_cell HI2.out.met.blk 0).trans rfl) (blk_cell (HC.out.blk HI2.out HC.out.k11 (by decide) HC.out.lo11) 0) HI2.out.pend (by rw [pdTo_len, HME.out]) x0 x1).mono ?_
    rintro ev w8 ⟨rfl, hb8, hp8⟩
    have HI3 := Aside0.mk (SetI.mark HC.out HI2.out hb8 hp8)
    refine ⟨_, rfl, ?_⟩
    refine hK.out _ _ ?_
    clear hK K hb8 hp8 HI2 hHeld
    refine n_ 75 ?_
    refine d_ ?_
    rw [← HPDN.out] at HI3
    go_wp2_with (fail)
    go_roundw
    case rel => exact ⟨k + 1, by go_num, by omega, HI3⟩
    case measure => simp [intOf]; omega
   ·obtain rfl : k = al.length := by omega
    obtain ⟨ws', HWS⟩ : ∃ x, Aside0 (wsTo ws al vs al.length = x) := ⟨_, ⟨rfl⟩⟩
    obtain ⟨st0, HST0⟩ : ∃ st0 : SSt, Aside0 (st0 = ⟨up, dn, pdTo n R S arcs al al.length, 0⟩) := ⟨_, ⟨rfl⟩⟩
    have HWL2 : Aside0 (ws'.length = arcs.length) := ⟨by rw [← HWS.out, wsTo_len]; exact HWL.out⟩
    rw [HWS.out] at HI
    have HSO0 : Aside0 (SOk m st0 0) := ⟨by rw [HST0.out]; exact ⟨by rw [← HME.out]; exact HUL.out, by rw [← HME.out]; exact HDL.out, by rw [pdTo_len, HME.out], HUB.out, HDB.out, Nat.le_refl _⟩⟩
    have HI0 : Aside0 (SetI w w6 wr base q p Bp m o2 wv uv dv Ba va ws' ar st0.up st0.dn st0.pd) := ⟨by rw [HST0.out]; exact HI.out⟩
    have HST1 : Aside0 (st0.ch = 0) := ⟨by rw [HST0.out]⟩
    have HST2 : Aside0 (setTo n arcs R S (wsTo ws al vs al.length) ar ⟨up, dn, pdTo n R S arcs al al.length, 0⟩ S.edges.length = setTo n arcs R S ws' ar st0 m) := ⟨by rw [HWS.out, HST0.out, HME.out]⟩
    clear HI hk hkl
    go_wp2_with (fail)
    go_loopw [15, 79] (fun c i wx => ∃ (e : Nat), i = .int .i64 (e : Int) ∧ e ≤ m ∧ c = .int .i64 ((setTo n arcs R S ws' ar st0 e).ch : Int) ∧ Aside0 (SetI w w6 wx base q p Bp m o2 wv uv dv Ba va ws' ar (setTo n arcs R S ws' ar st0 e).up (setTo n arcs R S ws' ar st0 e).dn (setTo n arcs R S ws' ar st0 e).pd)) (fun _ i _ => m - (intOf i).toNat)
    case atStart => exact ⟨0, rfl, Nat.zero_le _, by show _ = Value.int .i64 (st0.ch : Int); rw [HST1.out]; rfl, HI0⟩
    case round =>
     clear HI0
     obtain ⟨e, rfl, he, rfl, HI⟩ := hrel
     have HSO := Aside0.mk (setTo_ok (n := n) (arcs := arcs) (R := R) (S := S) (ws := ws') (ar := ar) HSO0.out e)
     obtain ⟨st, HST⟩ : ∃ st, Aside0 (setTo n arcs R S ws' ar st0 e = st) := ⟨_, ⟨rfl⟩⟩
     rw [HST.out] at HI HSO ⊢
     obtain ⟨U, D, P, ch⟩ := st
     have hch : ch ≤ e := by have := HSO.out.ch; omega
     by_cases hem : e < m
     ·have HNX : Aside0 (setTo n arcs R S ws' ar st0 (e + 1) = setE n arcs R S ws' ar ⟨U, D, P, ch⟩ e) := ⟨by show setE n arcs R S ws' ar (setTo n arcs R S ws' ar st0 e) e = _; rw [HST.out]⟩
      dsimp only at HI
      obtain ⟨hU, hD, hP, hbu, hbd, _⟩ := HSO.out
      dsimp only at hU hD hP hbu hbd
      have HLU := Aside0.mk hU
      have HLD := Aside0.mk hD
      have HLP := Aside0.mk hP
      have HBU := Aside0.mk hbu
      have HBD := Aside0.mk hbd
      have hpl : e < P.length := by omega
      clear hU hD hP hbu hbd
      obtain ⟨f0, HF0⟩ : ∃ x, Aside0 ((rd_T58 S.edges (e : Int)).f0 = x) := ⟨_, ⟨rfl⟩⟩
      obtain ⟨f1, HF1⟩ : ∃ x, Aside0 ((rd_T58 S.edges (e : Int)).f1 = x) := ⟨_, ⟨rfl⟩⟩
      obtain ⟨ae, hA2, hx0, hx1⟩ := at_T58 (xs := S.edges) (n := m) (A := eA) (by
       have h1 := (Kd.R_reads' (HC.out.rows HI.out HC.out.er)).2.2
       rw [HME.out] at h1
       exact h1) (e : Int) (by omega) (by omega)
      obtain ⟨ae2, hA3, hz0, _⟩ := at_T58 (xs := S.edges) (n := m) (A := eA) (by
       have h1 := (Kd.R_reads' (HC.out.rows HI.out HC.out.er)).2.2
       rw [HME.out] at h1
       exact h1) 0 (by omega) (by omega)
      obtain rfl : ae2 = ae := Option.some.inj (hA3.symm.trans hA2)
      have hsp := spot_of_cell (ad := ae2) (by exact hz0)
      obtain ⟨eb, eo, esb⟩ := ae2
      injection hsp with hz1 hz2 hes
      clear hz1 hz2 hz0 hA3
      subst hes
      simp only [Addr.add_lit, Int.toNat_natCast] at hx0 hx1
      subst hA2
      rw [HF0.out] at hx0
      rw [HF1.out] at hx1
      have hcp := Kd.R_cell (enc := Value.bool) (h1 := fun _ => rfl) false (cap := m) (g := Bp) (by rw [HLP.out]; exact HI.out.pend) (e : Int) (by omega) (by omega)
      rw [Int.toNat_natCast] at hcp
      obtain ⟨pe, HPE⟩ : ∃ b, Aside0 (P.getD e false = b) := ⟨_, ⟨rfl⟩⟩
      have hcp1 : wr.cell? ⟨Bp, e, none⟩ = some (.bool pe) := by rw [← HPE.out]; exact hcp.1
      have hc11 : wr.cell? ⟨b11, 0, none⟩ = some (.slice (some ⟨Bp, 0, none⟩) m m) := blk_cell (HC.out.blk HI.out HC.out.k11 (by decide) HC.out.lo11) 0
      have hb11l : b11 < wr.heap.size := World.block_lt_of_cell? _ _ hc11
      have hbpl : Bp < wr.heap.size := World.block_lt_of_cell? _ _ hcp1
      have hei : (e : Int) < (m : Int) := by omega
      have hba : Below wr.heap.size wr (wr.alloc (Obj.cells #[.int .i64 f0, .int .i64 f1] 58)) := (Below.refl _ _).alloc (Nat.le_refl _) _
      clear hcp
      cases pe with
      | false =>
       have HST3 : Aside0 (setTo n arcs R S ws' ar st0 (e + 1) = ⟨U, D, P, ch⟩) := ⟨by
        rw [HNX.out]
        unfold setE
        exact if_neg (by show ¬ P.getD e false = true; rw [HPE.out]; exact Bool.false_ne_true)⟩
       have HI4 := Aside0.mk (HI.out.fresh hba)
       clear hba
       go_wp2_with (fail)
       go_roundw
       case rel => exact ⟨e + 1, by go_num, by omega, by rw [HST3.out], ⟨by rw [HST3.out]; exact HI4.out⟩⟩
       case measure => simp [intOf]; omega
      | true =>
       have hc3 : (wr.alloc (Obj.cells #[.int .i64 f0, .int .i64 f1] 58)).cell? ⟨b3, 0, none⟩ = some (.pointer (some ⟨q, 0, none⟩)) := pw_cell_below hba (blk_cell (HC.out.blk HI.out HC.out.k3 (by decide) HC.out.lo3) 0)
       have hc3' : wr.cell? ⟨b3, 0, none⟩ = some (.pointer (some ⟨q, 0, none⟩)) := blk_cell (HC.out.blk HI.out HC.out.k3 (by decide) HC.out.lo3) 0
       have hb3l : b3 < wr.heap.size := World.block_lt_of_cell? _ _ hc3'
       go_wp2_with (fail)
       have HI5 := Aside0.mk (HI.out.fresh hba)
       have HK17 := Aside0.mk (heap_alloc_new wr (Obj.cells #[.int .i64 f0, .int .i64 f1] 58))
       clear hc3 hc3' hb3l hb11l hbpl hc11 hcp1 hx0 hx1 hba
       have hb17l : w6.heap.size ≤ wr.heap.size := HI.out.bel.size
       clear HI
       generalize wr.alloc (Obj.cells #[.int .i64 f0, .int .i64 f1] 58) = wa at HI5 HK17 ⊢
       generalize wr.heap.size = b17 at HK17 hb17l ⊢
       refine (Metric_weights.calls (HI5.out.met.reads (by rw [HARL.out, HME.out]; omega)) (HC.out.hier HI5.out) hR HOK.out HEND.out HS.out (HNEED.out ws' U D e HWL2.out (by rw [HLU.out, HME.out]) (by rw [HLD.out, HME.out]) HBU.out HBD.out (by rw [HME.out]; exact hem))).mono ?_
       rintro ev w8 ⟨rfl, hb8⟩
       have HI6 := Aside0.mk (HI5.out.fresh hb8)
       replace HK17 := Aside0.mk (blk_below HK17.out hb8)
       have HNX2 : Aside0 (setTo n arcs R S ws' ar st0 (e + 1) = if (weightsS n arcs R S ws' ar U D e).1 = U.getD e 0 ∧ (weightsS n arcs R S ws' ar U D e).2 = D.getD e 0 then ⟨U, D, P, ch⟩ else ⟨U.set e (weightsS n arcs R S ws' ar U D e).1, D.set e (weightsS n arcs R S ws' ar U D e).2, upMark n R S e P (upS n S f0), ch + 1⟩) := ⟨by
        rw [HNX.out, ← HF0.out]
        unfold setE
        exact if_pos HPE.out⟩
       clear hb8 HI5
       generalize weightsS n arcs R S ws' ar U D e = wt at HNX2 ⊢
       obtain ⟨p1, p2⟩ := wt
       dsimp only at HNX2
       obtain ⟨ug, ucap, huv, _, _, _⟩ := Kd.R_form HI6.out.met.ur (by rw [HLU.out]; omega)
       obtain ⟨dg, dcap, hdv, _, _, _⟩ := Kd.R_form HI6.out.met.dr (by rw [HLD.out]; omega)
       rw [HLU.out] at huv
       rw [HLD.out] at hdv
       have HUV := Aside0.mk huv
       have HDV := Aside0.mk hdv
       have hq3 : w8.cell? ⟨q, 3, none⟩ = some (.slice (some ⟨ug, 0, none⟩) m ucap) := by rw [← huv]; exact (blk_cell HI6.out.met.blk 3).trans rfl
       have hq4 : w8.cell? ⟨q, 4, none⟩ = some (.slice (some ⟨dg, 0, none⟩) m dcap) := by rw [← hdv]; exact (blk_cell HI6.out.met.blk 4).trans rfl
       have hq0 : w8.cell? ⟨q, 0, none⟩ = some (.pointer (some ⟨p, 0, none⟩)) := (blk_cell HI6.out.met.blk 0).trans rfl
       have hc3 : w8.cell? ⟨b3, 0, none⟩ = some (.pointer (some ⟨q, 0, none⟩)) := blk_cell (HC.out.blk HI6.out HC.out.k3 (by decide) HC.out.lo3) 0
       have hxu := Kd.R_cell (enc := Value.int .i64) (h1 := fun _ => rfl) (0 : Int) (cap := ucap) (g := ug) (by rw [HLU.out, ← HUV.out]; exact HI6.out.met.ur) (e : Int) (by omega) (by rw [HLU.out]; omega)
       have hxd := Kd.R_cell (enc := Value.int .i64) (h1 := fun _ => rfl) (0 : Int) (cap := dcap) (g := dg) (by rw [HLD.out, ← HDV.out]; exact HI6.out.met.dr) (e : Int) (by omega) (by rw [HLD.out]; omega)
       rw [Int.toNat_natCast] at hxu hxd
       obtain ⟨xu, HXU⟩ : ∃ x, Aside0 (U.getD e 0 = x) := ⟨_, ⟨rfl⟩⟩
       obtain ⟨xd, HXD⟩ : ∃ x, Aside0 (D.getD e 0 = x) := ⟨_, ⟨rfl⟩⟩
       have hcu : w8.cell? ⟨ug, e, none⟩ = some (.int .i64 xu) := by rw [← HXU.out]; exact hxu.1
       have hcd : w8.cell? ⟨dg, e, none⟩ = some (.int .i64 xd) := by rw [← HXD.out]; exact hxd.1
       rw [HXU.out, HXD.out] at HNX2
       clear huv hdv hxu hxd
       by_cases hsame : p1 = xu ∧ p2 = xd
       ·have HST3 : Aside0 (setTo n arcs R S ws' ar st0 (e + 1) = ⟨U, D, P, ch⟩) := ⟨HNX2.out.trans (if_pos hsame)⟩
        obtain ⟨rfl, rfl⟩ := hsame
        go_wp2_with (fail)
        go_roundw
        case rel => exact ⟨e + 1, by go_num, by omega, by rw [HST3.out], ⟨by rw [HST3.out]; exact HI6.out⟩⟩
        case measure => simp [intOf]; omega
       ·have HST3 : Aside0 (setTo n arcs R S ws' ar st0 (e + 1) = ⟨U.set e p1, D.set e p2, upMark n R S e P (upS n S f0), ch + 1⟩) := ⟨HNX2.out.trans (if_neg hsame)⟩
        rcases (show p1 ≠ xu ∨ (p1 = xu ∧ p2 ≠ xd) by omega) with hne | ⟨rfl, hne⟩
        all_goals (
         clear hsame
         go_upto_region 22 with (fail)
         refine s_ (fun w' => w'.cell? ⟨b3, 0, none⟩ = some (.pointer (some ⟨q, 0, none⟩)) ∧ w'.cell? ⟨q, 3, none⟩ = some (.slice (some ⟨ug, 0, none⟩) m ucap) ∧ w'.cell? ⟨q, 4, none⟩ = some (.slice (some ⟨dg, 0, none⟩) m dcap)) [13, 15] ⟨hc3, hq3, hq4⟩ (fun hHeld => ?_)
         replace HI6 := Aside0.mk (HI6.out.fresh (below_drew (Below.refl _ _)))
         replace HK17 := Aside0.mk (blk_below HK17.out (below_drew (Below.refl _ _)))
         generalize w8.drew = wd at HI6 HK17 hHeld ⊢
         clear hc3 hq0 hq3 hq4 hcu hcd
         refine t3_ 0 115 hHeld ?_
         refine p_ 1 116 ?_
         refine p_ 2 117 ?_
         refine t3_ 3 118 hHeld ?_
         refine p_ 4 119 ?_
         refine t3_ 5 120 hHeld ?_
         refine p_ 6 121 ?_
         refine p_ 7 122 ?_
         refine t3_ 8 123 hHeld ?_
         refine p_ 9 124 ?_
         refine p_ 10 125 ?_
         refine p_ 11 126 ?_
         refine p_ 12 127 ?_
         have hcu := Kd.R_cell (enc := Value.int .i64) (h1 := fun _ => rfl) (0 : Int) (cap := ucap) (g := ug) (by rw [HLU.out, ← HUV.out]; exact HI6.out.met.ur) (e : Int) (by omega) (by rw [HLU.out]; omega)
         rw [Int.toNat_natCast] at hcu
         obtain ⟨hcu, hfu⟩ := hcu
         have HI7 := Aside0.mk (HI6.out.putU (g := ug) (c := ucap) (by rw [HLU.out]; exact HUV.out) e p1)
         have hbu : b17 ≠ ug := by
          have h1 := (HC.out.mt ug (.inr (.inl (by rw [HUV.out]; rfl)))).2
          have h2 := HC.out.bw.size
          omega
         have hbd : b17 ≠ dg := by
          have h1 := (HC.out.mt dg (.inr (.inr (by rw [HDV.out]; rfl)))).2
          have h2 := HC.out.bw.size
          omega
         have HL17 := Aside0.mk ((Below.heap_setCell wd ⟨ug, e, none⟩ (.int .i64 p1) b17 hbu).trans HK17.out)
         refine l_ 13 (fun K hK => ?_)
         refine skip_ (w1 := ?_) (by rfl) rfl ?_ ?_
         rotate_left; (·go_simp; rfl)
         refine hK.out _ _ ?_
         clear hK K hcu hfu hHeld HI6 HK17 hbu
         generalize wd.setCell ⟨ug, e, none⟩ (.int .i64 p1) = w9 at HI7 HL17 ⊢
         have hcd := Kd.R_cell (enc := Value.int .i64) (h1 := fun _ => rfl) (0 : Int) (cap := dcap) (g := dg) (by rw [HLD.out, ← HDV.out]; exact HI7.out.met.dr) (e : Int) (by omega) (by rw [HLD.out]; omega)
         rw [Int.toNat_natCast] at hcd
         obtain ⟨hcd, hfd⟩ := hcd
         have HI8 := Aside0.mk (HI7.out.putD (g := dg) (c := dcap) (by rw [HLD.out]; exact HDV.out) e p2)
         have HK18 := Aside0.mk ((Below.heap_setCell w9 ⟨dg, e, none⟩ (.int .i64 p2) b17 hbd).trans HL17.out)
         refine p_ 14 128 ?_
         refine l_ 15 (fun K hK => ?_)
         refine skip_ (w1 := ?_) (by rfl) rfl ?_ ?_
         rotate_left; (·go_simp; rfl)
         refine hK.out _ _ ?_
         clear hK K hcd hfd HI7 HL17 hbd
         refine d_ ?_
         generalize w9.setCell ⟨dg, e, none⟩ (.int .i64 p2) = w10 at HI8 HK18 ⊢
         have hc3 : w10.cell? ⟨b3, 0, none⟩ = some (.pointer (some ⟨q, 0, none⟩)) := blk_cell (HC.out.blk HI8.out HC.out.k3 (by decide) HC.out.lo3) 0
         have hq0 : w10.cell? ⟨q, 0, none⟩ = some (.pointer (some ⟨p, 0, none⟩)) := (blk_cell HI8.out.met.blk 0).trans rfl
         have hx17 : w10.cell? ⟨b17, 0, none⟩ = some (.int .i64 f0) := blk_cell HK18.out 0
         go_upto_region 24 with (fail)
         refine s_ (fun w' => w'.cell? ⟨b3, 0, none⟩ = some (.pointer (some ⟨q, 0, none⟩)) ∧ w'.cell? ⟨q, 0, none⟩ = some (.pointer (some ⟨p, 0, none⟩)) ∧ w'.cell? ⟨b17, 0, none⟩ = some (.int .i64 f0)) [] ⟨hc3, hq0, hx17⟩ (fun hHeld => ?_)
         replace HI8 := Aside0.mk (HI8.out.fresh (below_drew (Below.refl _ _)))
         replace HK18 := Aside0.mk (blk_below HK18.out (below_drew (Below.refl _ _)))
         generalize w10.drew = wd at HI8 HK18 hHeld ⊢
         clear hc3 hq0 hx17
         refine t3_ 0 131 hHeld ?_
         refine p_ 1 132 ?_
         refine p_ 2 133 ?_
         refine t3_ 3 134 hHeld ?_
         refine p_ 4 135 ?_
         refine t3_ 5 136 hHeld ?_
         refine p_ 8 139 ?_
         refine o_ 6 137 (fun K hK => ?_)
         refine goes_ Try.func70 (by kernel_rfl) rfl #[.pointer (some ⟨p, 0, none⟩), .int .i64 f0] (by rfl) rfl rfl byL ?_
         refine (Hier_Up.calls (HC.out.hier HI8.out) HOK.out f0 (by have := HCU.out f0.toNat; omega)).mono ?_
         rintro ev w11 ⟨fv, rfl, hr11, hb11⟩
         obtain ⟨fs, HFS⟩ : ∃ x, Aside0 (upS n S f0 = x) := ⟨_, ⟨rfl⟩⟩
         rw [HFS.out] at hr11
         have hfsl : fs.length ≤ 1000000 := by
          rw [← HFS.out]
          exact upS_len HCU.out f0
         obtain ⟨fA, fc, rfl, hfc, hfC⟩ := Kd.R_reads hr11
         refine ⟨_, rfl, ?_⟩
         refine hK.out _ _ ⟨pw_cell_below hb11 hHeld.1, pw_cell_below hb11 hHeld.2.1, pw_cell_below hb11 hHeld.2.2⟩ (fun hHeld => ?_)
         clear hK K
         have HFL : Aside0 (w6.heap.size ≤ wd.heap.size) := ⟨HI8.out.bel.size⟩
         replace HI8 := Aside0.mk (HI8.out.fresh hb11)
         replace HK18 := Aside0.mk (blk_below HK18.out hb11)
         have HFC := Aside0.mk hr11
         clear hb11 hfc hfC hr11 hHeld
         refine n_ 137 ?_
         refine p_ 7 138 ?_
         refine d_ ?_
         have HBP6 : Aside0 (Bp < w6.heap.size) := ⟨by
          obtain ⟨cs, hc⟩ := HC.out.bp
          exact hblk_lt hc⟩
         have hchm : ch < 20000 := by omega
         go_wp2_with (fail)
         go_loopw [139] (fun i wy => ∃ (j : Nat), i = .int .i64 (j : Int) ∧ j ≤ fs.length ∧ Aside0 (Bel (fun k => k = Bp) w11 wy) ∧ Aside0 (SetI w w6 wy base q p Bp m o2 wv uv dv Ba va ws' ar (U.set e p1) (D.set e p2) (upMark n R S e P (fs.take j)))) (fun i _ => fs.length - (intOf i).toNat)
         case atStart => exact ⟨0, rfl, Nat.zero_le _, ⟨Bel.refl _ _⟩, HI8⟩
         case round =>
          clear HI8
          obtain ⟨j, rfl, hj, HBY, HI8⟩ := hrel
          obtain ⟨PJ, HPJ⟩ : ∃ x, Aside0 (upMark n R S e P (fs.take j) = x) := ⟨_, ⟨rfl⟩⟩
          rw [HPJ.out] at HI8
          have HPL : Aside0 (PJ.length = m) := ⟨by rw [← HPJ.out, upMark_len]; exact HLP.out⟩
          have HKY := Aside0.mk ((HBY.out.block b17 (hblk_lt HK18.out) (by have := HBP6.out; omega)).trans HK18.out)
          by_cases hjl : j < fs.length
          ·have HRF := Aside0.mk (Kd.R_mono (Kd.R_step (Kd.R_bound HFC.out) (fun k hk hlt => HBY.out.block k hlt (by have h1 := hk.2.1; have h2 := HFL.out; have h3 := HBP6.out; omega))) (ok' := fun _ => True) (fun _ _ => trivial))
           rcases cells_of_C (Kd.R_reads' HRF.out).2.2 with ⟨hz, _⟩ | ⟨_, fb, fo, hA1, hce⟩
           ·omega
           subst hA1
           have hcf := hce j hjl
           clear hce
           have hfm := HUP.out f0 (fs.getD j 0) (by rw [HFS.out, List.getD_eq_getElem?_getD, List.getElem?_eq_getElem hjl]; exact List.getElem_mem hjl)
           rw [HME.out] at hfm
           obtain ⟨f, HFN⟩ : ∃ f : Nat, Aside0 (fs.getD j 0 = (f : Int)) := ⟨(fs.getD j 0).toNat, ⟨(Int.toNat_of_nonneg hfm.1).symm⟩⟩
           have HUN : Aside0 (upMark n R S e P (fs.take (j + 1)) = upMark1 n R S e PJ (f : Int)) := ⟨by
            unfold upMark
            rw [foldl_take_succ _ _ hjl, HFN.out]
            show upMark1 n R S e (upMark n R S e P (fs.take j)) (f : Int) = _
            rw [HPJ.out]⟩
           rw [HFN.out] at hcf hfm
           have hfm2 : f < m := by omega
           by_cases hfe : f = e
           ·have HUN2 : Aside0 (upMark n R S e P (fs.take (j + 1)) = PJ) := ⟨by rw [HUN.out]; unfold upMark1; rw [if_pos (by omega)]⟩
            have hfe2 : (f : Int) = (e : Int) := by omega
            go_wp2_with (fail)
            go_roundw
            case rel => exact ⟨j + 1, by go_num, by omega, HBY, ⟨by rw [HUN2.out]; exact HI8.out⟩⟩
            case measure => simp [intOf]; omega
           ·have HUN2 : Aside0 (upMark n R S e P (fs.take (j + 1)) = markS n R S PJ f1 (rd_T58 S.edges (f : Int)).f1) := ⟨by rw [HUN.out]; unfold upMark1; rw [if_neg (by omega), HF1.out]⟩
            have hfe2 : ¬ ((f : Int) = (e : Int)) := by omega
            obtain ⟨g1, HG1⟩ : ∃ x, Aside0 ((rd_T58 S.edges (f : Int)).f1 = x) := ⟨_, ⟨rfl⟩⟩
            rw [HG1.out] at HUN2
            obtain ⟨ae, hA2, _, hg1⟩ := at_T58 (xs := S.edges) (n := m) (A := some ⟨eb, eo, none⟩) (by
             have h1 := (Kd.R_reads' (HC.out.rows HI8.out HC.out.er)).2.2
             rw [HME.out] at h1
             exact h1) (f : Int) (by omega) (by omega)
            injection hA2 with hA2
            subst hA2
            simp only [Addr.add_lit, Int.toNat_natCast] at hg1
            rw [HG1.out] at hg1
            have hx17 : wr.cell? ⟨b17, 1, none⟩ = some (.int .i64 f1) := blk_cell HKY.out 1
            have hfi : (f : Int) < (m : Int) := by omega
            go_upto_region 28 with (fail)
            refine s_ (fun w' => w'.cell? ⟨b17, 1, none⟩ = some (.int .i64 f1) ∧ w'.cell? ⟨eb, eo + f * 2 + 1, none⟩ = some (.int .i64 g1)) [8] ⟨hx17, hg1⟩ (fun hHeld => ?_)
            replace HI8 := Aside0.mk (HI8.out.fresh (below_drew (Below.refl _ _)))
            replace HBY := Aside0.mk (HBY.out.below (below_drew (Below.refl _ _)))
            generalize wr.drew = wd2 at HI8 HBY hHeld ⊢
            clear hx17 hg1 hcf
            refine p_ 0 146 ?_
            refine p_ 1 147 ?_
            refine t2_ 2 148 hHeld ?_
            refine p_ 3 149 ?_
            refine p_ 4 150 ?_
            refine p_ 5 151 ?_
            refine p_ 6 152 ?_
            refine t2_ 7 153 hHeld ?_
            refine ld_ 8 154 (fun K hK => ?_)
            refine goesVC_ (caps := #[.pointer (some ⟨b3, 0, none⟩), .pointer (some ⟨b11, 0, none⟩)]) Try.func67 (by kernel_rfl) rfl #[.int .i64 f1, .int .i64 g1, .pointer (some ⟨b3, 0, none⟩), .pointer (some ⟨b11, 0, none⟩)] (by rfl) rfl rfl rfl (by first | rfl | (simp only [List.map_toArray, List.map_cons, List.map_nil]; rfl)) ?_
            refine (Set_mark.calls (ok := fun _ => True) (HC.out.hier HI8.out) hR (by rw [← HME.out]; exact HF.out) (blk_cell (HC.out.blk HI8.out HC.out.k3 (by decide) HC.out.lo3) 0) ((blk_cell HI8.out.met.blk 0).trans rfl) (blk_cell (HC.out.blk HI8.out HC.out.k11 (by decide) HC.out.lo11) 0) HI8.out.pend HPL.out f1 g1).mono ?_
            rintro ev wm ⟨rfl, hbm, hpm⟩
            have HI9 := Aside0.mk (SetI.mark HC.out HI8.out hbm hpm)
            replace HBY := Aside0.mk (HBY.out.trans hbm (fun _ _ hk => hk))
            refine ⟨_, rfl, ?_⟩
            refine hK.out _ _ ?_
            clear hK K hbm hpm HI8 hHeld
            refine n_ 154 ?_
            refine d_ ?_
            rw [← HUN2.out] at HI9
            go_wp2_with (fail)
            go_roundw
            case rel => exact ⟨j + 1, by go_num, by omega, HBY, HI9⟩
            case measure => simp [intOf]; omega
          ·obtain rfl : j = fs.length := by omega
           rw [List.take_length] at HPJ
           have HFIN : Aside0 (setTo n arcs R S ws' ar st0 (e + 1) = ⟨U.set e p1, D.set e p2, PJ, ch + 1⟩) := ⟨by rw [HST3.out, HFS.out, HPJ.out]⟩
           go_wp2_with (fail)
           go_roundw
           case rel => exact ⟨e + 1, by go_num, by omega, by rw [HFIN.out]; rfl, ⟨by rw [HFIN.out]; exact HI8.out⟩⟩
           case measure => simp [intOf]; omega)
     ·obtain rfl : e = m := by omega
      have HFB := Aside0.mk (HC.out.belw HI.out)
      go_wp2
      go_ret2
      exact .inr ⟨by rw [HNW.out]; exact HPC.out, by rw [HST2.out, HST.out]; rfl, HFB.out, o2, by rw [HST2.out, HST.out, HWS.out]; exact HI.out.met⟩
 ·have HPC := Aside0.mk hpc
  obtain ⟨r, HRR⟩ : ∃ r, Aside0 (permC (ws.length : Int) al vs = r) := ⟨_, ⟨rfl⟩⟩
  rw [HRR.out] at hpc ⊢
  have hc3 := (blk_cell HK3.out 0).trans rfl
  go_wp2_with (fail)
  go_ret2
  exact .inl ⟨HPC.out, by rw [HRR.out]; rfl, HB.out⟩
end Go.Proofs.Ytfnophaiamkmpaa.Print
