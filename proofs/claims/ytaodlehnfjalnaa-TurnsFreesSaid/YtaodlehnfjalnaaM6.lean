/- Several texts of this claim in one: HXPar, HTBox, HTCell, HTBack, HTPerm. -/
import Derived.Test.YtaodlehnfjalnaaM0
namespace Go.Proofs.Ytaodlehnfjalnaa.Print
open Go.RowKit Go.Proofs.YtaodlehnfjalnaaW.PrintWords Go.Proofs.YtaodlehnfjalnaaW.PrintLast Go.Proofs.YtaodlehnfjalnaaW.PrintMore
set_option linter.unusedVariables false
set_option linter.unusedSimpArgs false
section
variable {P : Program} {ops : Array Oper} {Q : Exit → Act → World → Prop} {md : Region.Mode} {S : World → Prop} {ds : List Nat}
theorem ready_ {rs : List Nat} {fuel : Nat} {l : Array Bool} {a : Act} {w : World} (hr : (Region.ready md ops l == rs) = true) (hne : rs ≠ []) (h : AllReadyL P md ops Q S ds fuel l a w rs) : wpAnyLast P md ops Q S ds (fuel + 1) l a w := wpAnyLast_ready (by simpa using hr) hne h
end
theorem fill_box {w : World} {b : Nat} {z : Array Value} {T : TypeId} (cs : List Value) (h : w.heap[b]? = some (.cells z T (0, 0))) (hz : z.size = cs.length) :
  (w.setCells b 0 cs).heap[b]? = some (.cells cs.toArray T (0, 0)) := by
 obtain ⟨cur, h1, h2, h3⟩ := setCells_row cs 0 w z h (by omega)
 have : cur = cs.toArray := by
  apply Array.ext'
  rw [h3]
  simp [← hz]
 rw [h1, this]
theorem fill_below {W w : World} {b : Nat} (cs : List Value) (h : Below W.heap.size W w) (hb : W.heap.size ≤ b) : Below W.heap.size W (w.setCells b 0 cs) := by
 obtain ⟨s1, s2, s3, s4⟩ := setCells_same b cs 0 w
 exact ⟨s1.trans h.os, s2.trans h.tape, s3.trans h.output, by rw [s4]; exact h.size, fun k hk => (setCells_far cs 0 k (by omega)).trans (h.block k hk)⟩
structure Boxed (W : World) (b : Nat) (T : TypeId) (cs : Array Value) (w : World) : Prop where
 lo : W.heap.size ≤ b
 at_ : w.heap[b]? = some (.cells cs T (0, 0))
theorem Boxed.lt {W w : World} {b : Nat} {T : TypeId} {cs : Array Value} (h : Boxed W b T cs w) : b < w.heap.size := blk_lt h.at_
theorem Boxed.alloc {W w : World} {b : Nat} {T : TypeId} {cs : Array Value} (h : Boxed W b T cs w) (o : Obj) : Boxed W b T cs (w.alloc o) := ⟨h.lo, blk_alloc h.at_ o⟩
theorem Boxed.far {W w : World} {b c : Nat} {T : TypeId} {cs : Array Value} (h : Boxed W b T cs w) (hc : b ≠ c) (ds : List Value) : Boxed W b T cs (w.setCells c 0 ds) := ⟨h.lo, (setCells_far ds 0 b hc).trans h.at_⟩
theorem Boxed.new {W w : World} {T : TypeId} {cs : Array Value} (h : Below W.heap.size W w) : Boxed W w.heap.size T cs (w.alloc (.cells cs T (0, 0))) := ⟨h.size, heap_alloc_new w _⟩
theorem Boxed.fill {W w : World} {b : Nat} {T : TypeId} {z : Array Value} (h : Boxed W b T z w) (cs : List Value) (hz : z.size = cs.length) : Boxed W b T cs.toArray (w.setCells b 0 cs) := ⟨h.lo, fill_box cs h.at_ hz⟩
theorem exec_st {P : Program} {oi : Oper} {T : TypeId} {x y : Operand} (ho : oi.op = .store T x y) {ev : Operand → Value} {w : World} {b : Nat} {z : Array Value} {cs : List Value} (hx : ev x = .pointer (some ⟨b, 0, none⟩)) (hy : (ev y).cells.toList = cs) (ht : (P.info? T).map (·.size) = some cs.length) (h1 : ∀ q ∈ cs, q.oneCell' = true)
  (hw : w.heap[b]? = some (.cells z T (0, 0))) (hz : z.size = cs.length) : (execOp ev oi).run P w = .ok .skip (w.setCells b 0 cs) := by
 have hr := run_store_run (P := P) (w := w) (g := b) (o := 0) T (ev y) cs hw hy ht (by omega) h1
 unfold execOp
 simp only [ho, hx, Sem.run_bind, Sem.run_pure, Result.andThen_ok, hr]
section
variable {P : Program} {ops : Array Oper} {Q : Exit → Act → World → Prop} {md : Region.Mode} {S : World → Prop}
abbrev pB (b : Nat) : Value := .pointer (some ⟨b, 0, none⟩)
theorem boxes2_ (i1 i2 j1 j2 : Nat) {d1 d2 y1 y2 : Nat} {o1 o2 s1 s2 : Oper} {l : Array Bool} {fuel : Nat} {a : Act} {W w : World} {T1 T2 : TypeId} {z1 z2 : Array Value} {u1 u2 : Value} (cs1 cs2 : List Value)
  (hS : ∀ w', Below W.heap.size W w' → S w') (hw : Below W.heap.size W w)
  (hQ : ∀ b1 b2 w', b1 ≠ b2 → Boxed W b1 T1 cs1.toArray w' → Boxed W b2 T2 cs2.toArray w' → Below W.heap.size W w' → Q .normal ((a.put (some d1) (pB b1)).put (some d2) (pB b2)) w')
  (ho1 : ops[i1]? = some o1 := by rfl) (ho2 : ops[i2]? = some o2 := by rfl) (hs1 : ops[j1]? = some s1 := by rfl) (hs2 : ops[j2]? = some s2 := by rfl)
  (g1 : o1.guard = none := by rfl) (g2 : o2.guard = none := by rfl) (g3 : s1.guard = none := by rfl) (g4 : s2.guard = none := by rfl) (e1 : s1.dst = none := by rfl) (e2 : s2.dst = none := by rfl)
  (f1 : o1.dst = some d1 := by rfl) (f2 : o2.dst = some d2 := by rfl) (k1 : s1.op = .store T1 (.tmp d1) (.tmp y1) := by rfl) (k2 : s2.op = .store T2 (.tmp d2) (.tmp y2) := by rfl)
  (hcomm : ∀ p q, (a.put (some d2) q).put (some d1) p = (a.put (some d1) p).put (some d2) q := by intro p q; first | (simp only [putW]; done) | (simp only [putW]; rfl))
  (v5 : ∀ p q, ((a.put (some d1) p).put (some d2) q).eval (.tmp d1) = p := by intro p q; rfl) (v6 : ∀ p q, ((a.put (some d1) p).put (some d2) q).eval (.tmp y1) = u1 := by intro p q; rfl) (v7 : ∀ p q, ((a.put (some d1) p).put (some d2) q).eval (.tmp d2) = q := by intro p q; rfl) (v8 : ∀ p q, ((a.put (some d1) p).put (some d2) q).eval (.tmp y2) = u2 := by intro p q; rfl)
  (w1 : u1.cells.toList = cs1 := by rfl) (w2 : u2.cells.toList = cs2 := by rfl) (x1 : (P.info? T1).map (·.size) = some cs1.length := by kernel_rfl) (x2 : (P.info? T2).map (·.size) = some cs2.length := by kernel_rfl)
  (x3 : ∀ q ∈ cs1, q.oneCell' = true) (x4 : ∀ q ∈ cs2, q.oneCell' = true)
  (r1 : ∀ (a' : Act) w', (execOp a'.eval o1).run P w' = .ok (.value (pB w'.heap.size)) (w'.alloc (.cells z1 T1 (0, 0))) := by intro a' w'; go_simp; rfl) (r2 : ∀ (a' : Act) w', (execOp a'.eval o2).run P w' = .ok (.value (pB w'.heap.size)) (w'.alloc (.cells z2 T2 (0, 0))) := by intro a' w'; go_simp; rfl)
  (hz1 : z1.size = cs1.length := by rfl) (hz2 : z2.size = cs2.length := by rfl)
  (n12 : i1 ≠ i2 := by decide)
  (q00 : (Region.ready md ops l == [i1, i2]) = true := by kernel_rfl) (q10 : (Region.ready md ops (l.setIfInBounds i1 true) == [i2]) = true := by kernel_rfl) (q01 : (Region.ready md ops (l.setIfInBounds i2 true) == [i1]) = true := by kernel_rfl)
  (q11 : (Region.ready md ops ((l.setIfInBounds i1 true).setIfInBounds i2 true) == [j1]) = true := by kernel_rfl)
  (q21 : (Region.ready md ops (((l.setIfInBounds i1 true).setIfInBounds i2 true).setIfInBounds j1 true) == [j2]) = true := by kernel_rfl)
  (q22 : (Region.ready md ops ((((l.setIfInBounds i1 true).setIfInBounds i2 true).setIfInBounds j1 true).setIfInBounds j2 true) == []) = true := by kernel_rfl) :
  wpAnyLast P md ops Q S [] (fuel + 4) l a w := by
 have W1 : ∀ {o : Oper}, o.guard = none → ∀ y, Region.wanted o y = true := fun h y => by unfold Region.wanted; rw [h]
 have F21 : ∀ b1 b2 w', b1 ≠ b2 → Boxed W b1 T1 cs1.toArray w' → Boxed W b2 T2 z2 w' → Below W.heap.size W w' → wpAnyLast P md ops Q S [] (fuel + 1) (((l.setIfInBounds i1 true).setIfInBounds i2 true).setIfInBounds j1 true) ((a.put (some d1) (pB b1)).put (some d2) (pB b2)) w' := fun b1 b2 w' hn h1 h2 hb => by
  refine ready_ q21 (by simp) (AllReadyL.cons hs2 (by simp) (fun K hK => ?_) AllReadyL.nil)
  rw [e2]
  refine skip_ (W1 g4 _) e2 (exec_st k2 (v7 _ _) (by rw [v8]; exact w2) x2 x4 h2.at_ hz2) ?_
  exact hK.out _ _ (hS _ (fill_below cs2 hb h2.lo)) (fun _ => done_ q22 (hQ b1 b2 _ hn (h1.far hn cs2) (h2.fill cs2 hz2) (fill_below cs2 hb h2.lo)))
 have F11 : ∀ b1 b2 w', b1 ≠ b2 → Boxed W b1 T1 z1 w' → Boxed W b2 T2 z2 w' → Below W.heap.size W w' → wpAnyLast P md ops Q S [] (fuel + 2) ((l.setIfInBounds i1 true).setIfInBounds i2 true) ((a.put (some d1) (pB b1)).put (some d2) (pB b2)) w' := fun b1 b2 w' hn h1 h2 hb => by
  refine ready_ q11 (by simp) (AllReadyL.cons hs1 (by simp) (fun K hK => ?_) AllReadyL.nil)
  rw [e1]
  refine skip_ (W1 g3 _) e1 (exec_st k1 (v5 _ _) (by rw [v6]; exact w1) x1 x3 h1.at_ hz1) ?_
  exact hK.out _ _ (hS _ (fill_below cs1 hb h1.lo)) (fun _ => F21 b1 b2 _ hn (h1.fill cs1 hz1) (h2.far hn.symm cs1) (fill_below cs1 hb h1.lo))
 refine ready_ q00 (by simp) (AllReadyL.cons ho1 (by simp) (fun K hK => ?_) (AllReadyL.cons ho2 (by simp) (fun K hK => ?_) AllReadyL.nil))
 ·refine value_ (N := o1.dst) (W1 g1 _) rfl (r1 _ w) ?_
  rw [f1]
  have hb1 : Below W.heap.size W (w.alloc (.cells z1 T1 (0, 0))) := hw.alloc hw.size _
  refine hK.out _ _ (hS _ hb1) (fun _ => ?_)
  have h1 : Boxed W w.heap.size T1 z1 (w.alloc (.cells z1 T1 (0, 0))) := Boxed.new hw
  generalize w.alloc (.cells z1 T1 (0, 0)) = w' at hb1 h1 ⊢
  generalize w.heap.size = b1 at h1 ⊢
  clear hK K
  refine ready_ q10 (by simp) (AllReadyL.cons ho2 (by simp) (fun K hK => ?_) AllReadyL.nil)
  refine value_ (N := o2.dst) (W1 g2 _) rfl (r2 _ w') ?_
  rw [f2]
  have hb2 : Below W.heap.size W (w'.alloc (.cells z2 T2 (0, 0))) := hb1.alloc hb1.size _
  exact hK.out _ _ (hS _ hb2) (fun _ => F11 b1 _ _ (Nat.ne_of_lt h1.lt) (h1.alloc _) (Boxed.new hb1) hb2)
 ·refine value_ (N := o2.dst) (W1 g2 _) rfl (r2 _ w) ?_
  rw [f2]
  have hb1 : Below W.heap.size W (w.alloc (.cells z2 T2 (0, 0))) := hw.alloc hw.size _
  refine hK.out _ _ (hS _ hb1) (fun _ => ?_)
  have h1 : Boxed W w.heap.size T2 z2 (w.alloc (.cells z2 T2 (0, 0))) := Boxed.new hw
  generalize w.alloc (.cells z2 T2 (0, 0)) = w' at hb1 h1 ⊢
  generalize w.heap.size = b2 at h1 ⊢
  clear hK K
  refine ready_ q01 (by simp) (AllReadyL.cons ho1 (by simp) (fun K hK => ?_) AllReadyL.nil)
  refine value_ (N := o1.dst) (W1 g1 _) rfl (r1 _ w') ?_
  rw [f1]
  have hb2 : Below W.heap.size W (w'.alloc (.cells z1 T1 (0, 0))) := hb1.alloc hb1.size _
  exact hK.out _ _ (hS _ hb2) (fun _ => by
   rw [Array.setIfInBounds_comm _ _ n12.symm, hcomm]
   exact F11 _ b2 _ (Nat.ne_of_gt h1.lt) (Boxed.new hb1) (h1.alloc _) hb2)
end
theorem cell_spot {w : World} {ad : Addr} {v : Value} (h : w.cell? (ad.add 0) = some v) : ad = ⟨ad.block, ad.off, none⟩ := by
 have h0 : ad.add 0 = ad := by simp [Addr.add]
 rw [h0] at h
 unfold World.cell? at h
 cases hs : ad.spot with
 | none => cases ad; simp_all
 | some s =>
  rw [hs] at h
  split at h <;> simp at h
theorem ints_of_C {w : World} {A : Option Addr} {n : Nat} {l : List Int} (h : Kd.C (Kd.int .i64) w A n l) :
  (n = 0 ∧ l = []) ∨ (0 < n ∧ ∃ b off, A = some ⟨b, off, none⟩ ∧ ∀ j, j < l.length → w.cell? ⟨b, off + j, none⟩ = some (.int .i64 (l.getD j 0))) := by
 obtain ⟨hl, hm, hc⟩ := h
 rcases Nat.eq_zero_or_pos n with h0 | h0
 ·left
  exact ⟨h0, List.eq_nil_of_length_eq_zero (hl.trans h0)⟩
 ·right
  obtain ⟨ad, hA, hc2⟩ := hc h0
  subst hA
  have hcell : ∀ j, j < l.length → w.cell? (ad.add j) = some (.int .i64 (l.getD j 0)) := by
   intro j hj
   obtain ⟨c, hs, hr, hcc⟩ := hc2 j _ (List.getElem?_eq_getElem hj)
   have hr' : c = [.int .i64 (l[j])] := hr
   subst hr'
   have := hcc 0 _ rfl
   rw [show (Kd.int .i64).sz = 1 from rfl, Nat.mul_one, Nat.add_zero] at this
   rw [this]
   simp [List.getElem?_eq_getElem hj]
  have h1 := hcell 0 (by omega)
  have hs := cell_spot h1
  refine ⟨h0, ad.block, ad.off, congrArg some hs, fun j hj => ?_⟩
  have h2 := hcell j hj
  have : ad.add j = ⟨ad.block, ad.off + j, none⟩ := by
   unfold Addr.add
   split
   ·rename_i hz
    subst hz
    exact hs
   ·rfl
  rw [← this]
  exact h2
def pcL (x : S58) (A : Option Addr) (c : Nat) : List Value := [.int .i64 x.f0, .int .i64 x.f1, .int .i64 x.f2, .int .i64 x.f3, .int .i64 x.f4, .slice A x.f5.f0.length c, .int .i64 x.f5.f1, .int .i64 x.f5.f2]
theorem pcL_one (x : S58) (A : Option Addr) (c : Nat) : ∀ q ∈ pcL x A c, q.oneCell' = true := by
 intro q hq
 simp only [pcL, List.mem_cons, List.not_mem_nil, or_false] at hq
 rcases hq with rfl | rfl | rfl | rfl | rfl | rfl | rfl | rfl <;> rfl
theorem pc_at {w : World} {A : Option Addr} {n : Nat} {xs : List S58} (h : Kd.C k58 w A n xs) {i : Nat} (hi : i < n) : ∃ b o, A = some ⟨b, o, none⟩ := by
 obtain ⟨ad, A5, c5, hA, hx, _⟩ := at_T58 h 0 (by omega) (by omega)
 have hsp := cell_spot (ad := ad) (by exact hx)
 obtain ⟨b, o, s⟩ := ad
 injection hsp with _ _ hes
 subst hes
 exact ⟨b, o, hA⟩
theorem pc_get {w : World} {b o : Nat} {n : Nat} {xs : List S58} (h : Kd.C k58 w (some ⟨b, o, none⟩) n xs) {i : Nat} (hi : i < n) : ∃ A c, (rd_T58 xs (i : Int)).f5.f0.length ≤ c ∧ Kd.C k120 w A (rd_T58 xs (i : Int)).f5.f0.length (rd_T58 xs (i : Int)).f5.f0 ∧
  w.cell? ⟨b, o + i * 8, none⟩ = some (.int .i64 (rd_T58 xs (i : Int)).f0) ∧ w.cell? ⟨b, o + i * 8 + 1, none⟩ = some (.int .i64 (rd_T58 xs (i : Int)).f1) ∧ w.cell? ⟨b, o + i * 8 + 2, none⟩ = some (.int .i64 (rd_T58 xs (i : Int)).f2) ∧ w.cell? ⟨b, o + i * 8 + 3, none⟩ = some (.int .i64 (rd_T58 xs (i : Int)).f3) ∧ w.cell? ⟨b, o + i * 8 + 4, none⟩ = some (.int .i64 (rd_T58 xs (i : Int)).f4) ∧ w.cell? ⟨b, o + i * 8 + 5, none⟩ = some (.slice A (rd_T58 xs (i : Int)).f5.f0.length c) ∧ w.cell? ⟨b, o + i * 8 + 6, none⟩ = some (.int .i64 (rd_T58 xs (i : Int)).f5.f1) ∧ w.cell? ⟨b, o + i * 8 + 7, none⟩ = some (.int .i64 (rd_T58 xs (i : Int)).f5.f2) := by
 obtain ⟨ad, A5, c5, hA, x0, x1, x2, x3, x4, x5, x6, x7, hl, hC⟩ := at_T58 h (i : Int) (by omega) (by omega)
 injection hA with hA
 subst hA
 simp only [Addr.add_lit, Int.toNat_natCast] at x0 x1 x2 x3 x4 x5 x6 x7
 exact ⟨A5, c5, hl, hC, x0, x1, x2, x3, x4, x5, x6, x7⟩
theorem tn_at {w : World} {A : Option Addr} {n : Nat} {xs : List S42} (h : Kd.C k42 w A n xs) {i : Nat} (hi : i < n) : ∃ b o, A = some ⟨b, o, none⟩ := by
 obtain ⟨ad, hA, hx, _⟩ := at_T42 h 0 (by omega) (by omega)
 have hsp := cell_spot (ad := ad) (by exact hx)
 obtain ⟨b, o, s⟩ := ad
 injection hsp with _ _ hes
 subst hes
 exact ⟨b, o, hA⟩
theorem tn_get {w : World} {b o : Nat} {n : Nat} {xs : List S42} (h : Kd.C k42 w (some ⟨b, o, none⟩) n xs) {i : Nat} (hi : i < n) : 
  w.cell? ⟨b, o + i * 4, none⟩ = some (.int .i64 (rd_T42 xs (i : Int)).f0) ∧ w.cell? ⟨b, o + i * 4 + 1, none⟩ = some (.int .i64 (rd_T42 xs (i : Int)).f1) ∧ w.cell? ⟨b, o + i * 4 + 2, none⟩ = some (.int .i64 (rd_T42 xs (i : Int)).f2) ∧ w.cell? ⟨b, o + i * 4 + 3, none⟩ = some (.bool (rd_T42 xs (i : Int)).f3) := by
 obtain ⟨ad, hA, x0, x1, x2, x3⟩ := at_T42 h (i : Int) (by omega) (by omega)
 injection hA with hA
 subst hA
 simp only [Addr.add_lit, Int.toNat_natCast] at x0 x1 x2 x3
 exact ⟨x0, x1, x2, x3⟩
def backB (x p : S58) : Bool := decide (p.f2 = x.f2 ∧ p.f1 = x.f0)
set_option maxHeartbeats 1600000 in
set_option maxRecDepth 100000 in
theorem turns_back.calls {w : World} {b : Nat} {x p : S58} {A A' : Option Addr} {c c' : Nat} (hb : w.heap[b]? = some (.cells (pcL x A c).toArray 58 (0, 0))) :
  Calls Try.prog 60 #[.agg (pcL p A' c').toArray, .pointer (some ⟨b, 0, none⟩)] w fun e w' => e = .returned (.bool (backB x p)) ∧ Below w.heap.size w w' := by
 have HB := Aside0.mk hb
 unfold pcL
 obtain ⟨p0, p1, p2, p3, p4, p5⟩ := p
 obtain ⟨x0, x1, x2, x3, x4, x5⟩ := x
 have b0 : w.cell? ⟨b, 0, none⟩ = some (.int .i64 x0) := blk_cell HB.out 0
 have b2 : w.cell? ⟨b, 2, none⟩ = some (.int .i64 x2) := blk_cell HB.out 2
 have hlt := blk_lt HB.out
 unfold backB
 clear hb
 by_cases h1 : p2 = x2
 ·subst h1
  by_cases h2 : p1 = x0
  ·subst h2
   go_enter Try.func60, Try.ntmps60
   go_wp2
   go_ret
   exact ⟨by simp, (Below.refl _ _).alloc (Nat.le_refl _) _⟩
  ·have h2' : (p1 == x0) = false := by simpa using h2
   go_enter Try.func60, Try.ntmps60
   go_wp2
   go_ret
   exact ⟨by simp [h2], (Below.refl _ _).alloc (Nat.le_refl _) _⟩
 ·have h1' : (p2 == x2) = false := by simpa using h1
  go_enter Try.func60, Try.ntmps60
  go_wp2
  go_ret
  exact ⟨by simp [h1], (Below.refl _ _).alloc (Nat.le_refl _) _⟩
def turnsR (w v y : Int) : List S42 → Bool → Bool → Bool
 | [], must, may => !must || may
 | t :: r, must, may => if t.f0 = w ∧ t.f1 = v then (if t.f3 = true then turnsR w v y r true (may || decide (t.f2 = y)) else if t.f2 = y then false else turnsR w v y r must may) else turnsR w v y r must may
def permB (nodes : List Int) (pcs : List S58) (l : List S42) (out : List Int) (a b : Int) : Bool :=
 if backB (rd_T58 pcs a) (rd_T58 pcs b) = true ∧ ¬ (out.all (fun i => backB (rd_T58 pcs a) (rd_T58 pcs i))) = true then false
 else turnsR (rd_T58 pcs a).f2 (rd nodes (rd_T58 pcs a).f1) (rd_T58 pcs b).f2 l false false
def permOk (nodes : List Int) (pcs : List S58) (out : List Int) (a b : Int) : Prop := 0 ≤ a ∧ a < (pcs.length : Int) ∧ 0 ≤ b ∧ b < (pcs.length : Int) ∧ (∀ i ∈ out, 0 ≤ i ∧ i < (pcs.length : Int)) ∧ 0 ≤ (rd_T58 pcs a).f1 ∧ (rd_T58 pcs a).f1 < (nodes.length : Int)
instance (nodes : List Int) (pcs : List S58) (out : List Int) (a b : Int) : Decidable (permOk nodes pcs out a b) := by unfold permOk; infer_instance
def turns_permitted.f (l0_0 : List Int) (l0_1 : List S158) (l0_2 : List S58) (l1 : List S42) (l2 : List Int) (a3 a4 : Int) : Option Bool := if permOk l0_0 l0_2 l2 a3 a4 then some (permB l0_0 l0_2 l1 l2 a3 a4) else none
set_option maxHeartbeats 6400000 in
set_option maxRecDepth 100000 in
theorem turns_permitted.calls (A0_0 : Option Addr) (c0_0 : Nat) (l0_0 : List Int) (A0_1 : Option Addr) (c0_1 : Nat) (l0_1 : List S158) (A0_2 : Option Addr) (c0_2 : Nat) (l0_2 : List S58) (A1 : Option Addr) (c1 : Nat) (l1 : List S42) (A2 : Option Addr) (c2 : Nat) (l2 : List Int) (a3 a4 : Int) (r : Bool) (w : World) (hr0_0 : Kd.C (Kd.int .i64) w A0_0 l0_0.length l0_0) (hc0_0 : l0_0.length ≤ c0_0) (hr0_1 : Kd.C k158 w A0_1 l0_1.length l0_1) (hc0_1 : l0_1.length ≤ c0_1) (hr0_2 : Kd.C k58 w A0_2 l0_2.length l0_2) (hc0_2 : l0_2.length ≤ c0_2) (hr1 : Kd.C k42 w A1 l1.length l1) (hc1 : l1.length ≤ c1) (hr2 : Kd.C (Kd.int .i64) w A2 l2.length l2) (hc2 : l2.length ≤ c2)
  (h : turns_permitted.f l0_0 l0_1 l0_2 l1 l2 a3 a4 = some r) :
  Calls Try.prog 37 #[.agg #[.slice A0_0 l0_0.length c0_0, .slice A0_1 l0_1.length c0_1, .slice A0_2 l0_2.length c0_2], .slice A1 l1.length c1, .slice A2 l2.length c2, .int .i64 a3, .int .i64 a4] w fun e w' => e = .returned (.bool r) ∧ Below w.heap.size w w' := by
 unfold turns_permitted.f at h
 split at h
 rotate_left
 ·cases h
 rename_i hok
 injection h with h
 obtain ⟨ha0, ha1, hb0, hb1, hout, hn0, hn1⟩ := hok
 obtain ⟨a, rfl⟩ := Int.eq_ofNat_of_zero_le ha0
 obtain ⟨b, rfl⟩ := Int.eq_ofNat_of_zero_le hb0
 have hal : a < l0_2.length := by omega
 have hbl : b < l0_2.length := by omega
 obtain ⟨pb, po, rfl⟩ := pc_at hr0_2 hal
 have HN := Aside0.mk hr0_0
 have HPC := Aside0.mk hr0_2
 have HT := Aside0.mk hr1
 have HO := Aside0.mk hr2
 have HOUT := Aside0.mk hout
 have HR := Aside0.mk h
 have hl1 := hr1.2.1
 have hl2 := hr2.2.1
 unfold maxLen at hl1 hl2
 clear hr0_0 hc0_0 hr0_1 hc0_1 hr0_2 hc0_2 hr1 hc1 hr2 hc2 hout h ha0 ha1 hb0 hb1
 go_enter Try.func37, Try.ntmps37
 go_upto_region 1 with (fail)
 have hba : Below w.heap.size w (w.alloc (Obj.cells #[.slice A0_0 l0_0.length c0_0, .slice A0_1 l0_1.length c0_1, .slice (some ⟨pb, po, none⟩) l0_2.length c0_2] 37)) := (Below.refl _ _).alloc (Nat.le_refl _) _
 have HBK := Aside0.mk (heap_alloc_new w (Obj.cells #[.slice A0_0 l0_0.length c0_0, .slice A0_1 l0_1.length c0_1, .slice (some ⟨pb, po, none⟩) l0_2.length c0_2] 37))
 have HB := Aside0.mk hba
 replace HN := Aside0.mk (Kd.C_below HN.out hba)
 replace HPC := Aside0.mk (Kd.C_below HPC.out hba)
 replace HT := Aside0.mk (Kd.C_below HT.out hba)
 replace HO := Aside0.mk (Kd.C_below HO.out hba)
 clear hba
 generalize w.alloc (Obj.cells #[.slice A0_0 l0_0.length c0_0, .slice A0_1 l0_1.length c0_1, .slice (some ⟨pb, po, none⟩) l0_2.length c0_2] 37) = w1 at HB HBK HN HPC HT HO ⊢
 obtain ⟨xA, xc, hxl, hxC, x0, x1, x2, x3, x4, x5, x6, x7⟩ := pc_get HPC.out hal
 obtain ⟨yA, yc, hyl, hyC, y0, y1, y2, y3, y4, y5, y6, y7⟩ := pc_get HPC.out hbl
 have d2 : w1.cell? ⟨w.heap.size, 2, none⟩ = some (.slice (some ⟨pb, po, none⟩) l0_2.length c0_2) := blk_cell HBK.out 2
 have hai : (a : Int) < (l0_2.length : Int) := by omega
 have hbi : (b : Int) < (l0_2.length : Int) := by omega
 obtain ⟨x, HX⟩ : ∃ x, Aside0 (rd_T58 l0_2 (a : Int) = x) := ⟨_, ⟨rfl⟩⟩
 obtain ⟨y, HY⟩ : ∃ y, Aside0 (rd_T58 l0_2 (b : Int) = y) := ⟨_, ⟨rfl⟩⟩
 rw [HX.out] at x0 x1 x2 x3 x4 x5 x6 x7 hn0 hn1
 rw [HY.out] at y0 y1 y2 y3 y4 y5 y6 y7
 refine s_ (fun w' => Below w1.heap.size w1 w') [] (below_drew (Below.refl _ _)) (fun hHeld => ?_)
 refine p_ 0 20 ?_
 refine t1_ 1 21 hHeld ?_ (hy := Or.inl ⟨by rfl, by rintro w' s0; have z := pw_cell_below s0 d2; go_simp; with_reducible rfl⟩)
 refine p_ 2 22 ?_
 refine p_ 3 23 ?_
 refine t1_ 4 24 hHeld ?_ (hy := Or.inl ⟨by rfl, by rintro w' s0; have z0 := pw_cell_below s0 x0; have z1 := pw_cell_below s0 x1; have z2 := pw_cell_below s0 x2; have z3 := pw_cell_below s0 x3; have z4 := pw_cell_below s0 x4; have z5 := pw_cell_below s0 x5; have z6 := pw_cell_below s0 x6; have z7 := pw_cell_below s0 x7; go_simp; with_reducible rfl⟩)
 refine p_ 5 25 ?_
 refine t1_ 6 26 hHeld ?_ (hy := Or.inl ⟨by rfl, by rintro w' s0; have z := pw_cell_below s0 d2; go_simp; with_reducible rfl⟩)
 refine p_ 7 27 ?_
 refine p_ 8 28 ?_
 refine t1_ 9 29 hHeld ?_ (hy := Or.inl ⟨by rfl, by rintro w' s0; have z0 := pw_cell_below s0 y0; have z1 := pw_cell_below s0 y1; have z2 := pw_cell_below s0 y2; have z3 := pw_cell_below s0 y3; have z4 := pw_cell_below s0 y4; have z5 := pw_cell_below s0 y5; have z6 := pw_cell_below s0 y6; have z7 := pw_cell_below s0 y7; go_simp; with_reducible rfl⟩)
 refine boxes2_ 10 11 12 13 (W := w1) (T1 := 58) (T2 := 58) (d1 := 11) (d2 := 12) (y1 := 24) (y2 := 29) (z1 := (pcL z58 none 0).toArray) (z2 := (pcL z58 none 0).toArray) (pcL x xA xc) (pcL y yA yc) (fun w' h => h) hHeld (fun b11 b12 w2 hne h11 h12 hb2 => ?_) (x3 := pcL_one x xA xc) (x4 := pcL_one y yA yc)
 have HX11 := Aside0.mk h11.at_
 have HX12 := Aside0.mk h12.at_
 replace HBK := Aside0.mk (blk_below HBK.out hb2)
 replace HB := Aside0.mk (below_then HB.out HB.out.size hb2)
 replace HN := Aside0.mk (Kd.C_below HN.out hb2)
 replace HPC := Aside0.mk (Kd.C_below HPC.out hb2)
 replace HT := Aside0.mk (Kd.C_below HT.out hb2)
 replace HO := Aside0.mk (Kd.C_below HO.out hb2)
 clear x0 x1 x2 x3 x4 x5 x6 x7 y0 y1 y2 y3 y4 y5 y6 y7 d2 h11 h12 hb2 hHeld hne hxl hxC hyl hyC hal hbl
 simp only [putW]
 have e0 : w2.cell? ⟨b12, 0, none⟩ = some (.int .i64 y.f0) := blk_cell HX12.out 0
 have e1 : w2.cell? ⟨b12, 1, none⟩ = some (.int .i64 y.f1) := blk_cell HX12.out 1
 have e2 : w2.cell? ⟨b12, 2, none⟩ = some (.int .i64 y.f2) := blk_cell HX12.out 2
 have e3 : w2.cell? ⟨b12, 3, none⟩ = some (.int .i64 y.f3) := blk_cell HX12.out 3
 have e4 : w2.cell? ⟨b12, 4, none⟩ = some (.int .i64 y.f4) := blk_cell HX12.out 4
 have e5 : w2.cell? ⟨b12, 5, none⟩ = some (.slice yA y.f5.f0.length yc) := blk_cell HX12.out 5
 have e6 : w2.cell? ⟨b12, 6, none⟩ = some (.int .i64 y.f5.f1) := blk_cell HX12.out 6
 have e7 : w2.cell? ⟨b12, 7, none⟩ = some (.int .i64 y.f5.f2) := blk_cell HX12.out 7
 go_wp2_with (fail)
 refine (turns_back.calls (p := y) (A' := yA) (c' := yc) HX11.out).mono ?_
 rintro e w3 ⟨rfl, hb3⟩
 have HB3 := Aside0.mk hb3
 clear hb3 e0 e1 e2 e3 e4 e5 e6 e7
 obtain ⟨bk, HBKK⟩ : ∃ z, Aside0 (backB x y = z) := ⟨_, ⟨rfl⟩⟩
 rw [HBKK.out]
 go_upto_if 33 with (fail)
 go_cut [36] (fun v wc => Aside0 (Below w2.heap.size w2 wc) ∧ Aside0 (¬ (backB x y = true ∧ ¬ (l2.all (fun i => backB x (rd_T58 l0_2 i))) = true)))
 case first =>
  cases bk with
  | false =>
   go_wp2_with (fail)
   go_meet
   case rel => exact ⟨HB3, ⟨fun h => by have h1 := h.1; rw [HBKK.out] at h1; cases h1⟩⟩
  | true =>
   go_wp2_with (fail)
   go_loopw [36] (fun i wr => ∃ k : Nat, i = .int .i64 (k : Int) ∧ k ≤ l2.length ∧ Aside0 (Below w2.heap.size w2 wr) ∧ Aside0 (∀ j, j < k → backB x (rd_T58 l0_2 (l2.getD j 0)) = true)) (fun i _ => l2.length - (intOf i).toNat)
   case atStart => exact ⟨0, rfl, Nat.zero_le _, HB3, ⟨fun j h => absurd h (by omega)⟩⟩
   case round =>
    clear HB3
    obtain ⟨k, rfl, hk, HBL, HAL⟩ := hrel
    by_cases hkl : k < l2.length
    ·rcases ints_of_C (Kd.C_below HO.out HBL.out) with ⟨hz, _⟩ | ⟨_, ob, oo, hA, hce⟩
     ·omega
     subst hA
     have hci := hce k hkl
     have hmem : l2.getD k 0 ∈ l2 := by rw [List.getD_eq_getElem?_getD, List.getElem?_eq_getElem hkl]; exact List.getElem_mem hkl
     obtain ⟨hi0, hi1⟩ := HOUT.out _ hmem
     obtain ⟨i, hi⟩ := Int.eq_ofNat_of_zero_le hi0
     have HI := Aside0.mk hi
     rw [hi] at hci hi1
     have hil : i < l0_2.length := by omega
     obtain ⟨pA, pc, hpl, hpC, z0, z1, z2, z3, z4, z5, z6, z7⟩ := pc_get (Kd.C_below HPC.out HBL.out) hil
     obtain ⟨p, HP⟩ : ∃ p, Aside0 (rd_T58 l0_2 (i : Int) = p) := ⟨_, ⟨rfl⟩⟩
     rw [HP.out] at z0 z1 z2 z3 z4 z5 z6 z7
     have d2 : wr.cell? ⟨w.heap.size, 2, none⟩ = some (.slice (some ⟨pb, po, none⟩) l0_2.length c0_2) := blk_cell (blk_below HBK.out HBL.out) 2
     have hki : (k : Int) < (l2.length : Int) := by omega
     clear hce hmem hi hi0 hpl hpC
     go_wp2_with (fail)
     refine (turns_back.calls (p := p) (A' := pA) (c' := pc) (blk_below HX11.out HBL.out)).mono ?_
     rintro e w4 ⟨rfl, hb4⟩
     have HB4 := Aside0.mk (below_then HBL.out HBL.out.size hb4)
     obtain ⟨bb, HBB⟩ : ∃ z, Aside0 (backB x p = z) := ⟨_, ⟨rfl⟩⟩
     rw [HBB.out]
     have HK : Aside0 (backB x (rd_T58 l0_2 (l2.getD k 0)) = bb) := ⟨by rw [HI.out, HP.out, HBB.out]⟩
     clear hb4 z0 z1 z2 z3 z4 z5 z6 z7 d2
     cases bb with
     | false =>
      have HRF : Aside0 (r = false) := ⟨by
       rw [← HR.out]
       unfold permB
       have hne : ¬ (l2.all (fun i => backB x (rd_T58 l0_2 i))) = true := fun h => by
        rw [List.all_eq_true] at h
        have := h (l2.getD k 0) (by rw [List.getD_eq_getElem?_getD, List.getElem?_eq_getElem hkl]; exact List.getElem_mem hkl)
        rw [HK.out] at this
        cases this
       rw [HX.out, HY.out, if_pos ⟨HBKK.out, hne⟩]⟩
      go_wp2_with (fail)
      go_ret
      exact ⟨by rw [HRF.out]; rfl, below_then HB.out HB.out.size HB4.out⟩
     | true =>
      go_wp2_with (fail)
      go_roundw
      case rel => exact ⟨k + 1, by go_num, by omega, HB4, ⟨fun j hj => by
       by_cases e : j = k
       ·subst e; exact HK.out
       ·exact HAL.out j (by omega)⟩⟩
      case measure => simp [intOf]; omega
    ·obtain rfl : k = l2.length := by omega
     clear hk hkl
     go_wp2_with (fail)
     go_meet
     case rel => exact ⟨HBL, ⟨fun h => h.2 (by
      rw [List.all_eq_true]
      intro i hi
      obtain ⟨j, hj, rfl⟩ := List.getElem_of_mem hi
      have := HAL.out j hj
      rwa [List.getD_eq_getElem?_getD, List.getElem?_eq_getElem hj] at this)⟩⟩
 case rest =>
  clear HB3
  obtain ⟨HBC, HNB⟩ := hcut
  obtain ⟨m, hm⟩ := Int.eq_ofNat_of_zero_le hn0
  rw [hm] at hn1
  have HM := Aside0.mk hm
  have hml : m < l0_0.length := by omega
  have HR2 : Aside0 (turnsR x.f2 (rd l0_0 (m : Int)) y.f2 l1 false false = r) := ⟨by
   rw [← HR.out]
   unfold permB
   rw [HX.out, HY.out, if_neg HNB.out, HM.out]⟩
  rcases ints_of_C HN.out with ⟨hz, _⟩ | ⟨_, nb, no, hA, hce⟩
  ·omega
  subst hA
  have hcn := hce m hml
  have HCN := Aside0.mk hcn
  clear hm hn0 hce HNB HR hcn HBKK HO HOUT HPC
  obtain ⟨v, HV⟩ : ∃ v, Aside0 (rd l0_0 (m : Int) = v) := ⟨_, ⟨rfl⟩⟩
  have HCV : Aside0 (w2.cell? ⟨nb, no + m, none⟩ = some (.int .i64 v)) := ⟨by rw [← HV.out]; exact HCN.out⟩
  rw [HV.out] at HR2
  clear HCN
  go_wp2_with (fail)
  go_loopw [16, 17, 51] (fun mu ma i wr => ∃ (k : Nat) (b1 b2 : Bool), i = .int .i64 (k : Int) ∧ mu = .bool b1 ∧ ma = .bool b2 ∧ k ≤ l1.length ∧ Aside0 (Below w2.heap.size w2 wr) ∧ Aside0 (turnsR x.f2 v y.f2 (l1.drop k) b1 b2 = r)) (fun _ _ i _ => l1.length - (intOf i).toNat)
  case atStart => exact ⟨0, false, false, rfl, rfl, rfl, Nat.zero_le _, HBC, HR2⟩
  case round =>
   clear HR2
   obtain ⟨k, b1, b2, rfl, rfl, rfl, hk, HBL, HTR⟩ := hrel
   by_cases hkl : k < l1.length
   ·obtain ⟨tb, to', hA⟩ := tn_at HT.out hkl
    subst hA
    obtain ⟨q0, q1, q2, q3⟩ := tn_get (Kd.C_below HT.out HBL.out) hkl
    have HTS : Aside0 (l1.drop k = rd_T42 l1 (k : Int) :: l1.drop (k + 1)) := ⟨by
     rw [List.drop_eq_getElem_cons hkl]
     congr 1
     unfold rd_T42
     simp [List.getD_eq_getElem?_getD, List.getElem?_eq_getElem hkl]⟩
    rw [HTS.out] at HTR
    generalize rd_T42 l1 (k : Int) = t at q0 q1 q2 q3 HTR
    obtain ⟨t0, t1, t2, t3⟩ := t
    dsimp only at q0 q1 q2 q3
    have x1 : wr.cell? ⟨b11, 1, none⟩ = some (.int .i64 x.f1) := blk_cell (blk_below HX11.out HBL.out) 1
    have x2 : wr.cell? ⟨b11, 2, none⟩ = some (.int .i64 x.f2) := blk_cell (blk_below HX11.out HBL.out) 2
    have y2 : wr.cell? ⟨b12, 2, none⟩ = some (.int .i64 y.f2) := blk_cell (blk_below HX12.out HBL.out) 2
    have d0 : wr.cell? ⟨w.heap.size, 0, none⟩ = some (.slice (some ⟨nb, no, none⟩) l0_0.length c0_0) := blk_cell (blk_below HBK.out HBL.out) 0
    have hv := pw_cell_below HBL.out HCV.out
    rw [HM.out] at x1
    have hb11 : b11 < wr.heap.size := blk_lt (blk_below HX11.out HBL.out)
    have hb12 : b12 < wr.heap.size := blk_lt (blk_below HX12.out HBL.out)
    have hb5 : w.heap.size < wr.heap.size := blk_lt (blk_below HBK.out HBL.out)
    have hnb : nb < wr.heap.size := World.block_lt_of_cell? _ _ hv
    have hki : (k : Int) < (l1.length : Int) := by omega
    generalize x.f2 = xw at x2 HTR
    generalize y.f2 = yw at y2 HTR
    clear HTS
    by_cases h1 : t0 = xw ∧ t1 = v
    ·obtain ⟨rfl, rfl⟩ := h1
     cases t3 with
     | true =>
      replace HTR : Aside0 (turnsR t0 t1 yw (l1.drop (k + 1)) true (b2 || decide (t2 = yw)) = r) := ⟨by rw [← HTR.out, turnsR, if_pos ⟨rfl, rfl⟩, if_pos rfl]⟩
      go_upto_region 14 with (fail)
      go_quiet (fail)
      cases b2 with
      | true =>
       go_wp2_with (fail)
       go_roundw
       case rel => exact ⟨k + 1, true, true, by go_num, rfl, rfl, by omega, ⟨byB HBL.out⟩, HTR⟩
       case measure => simp [intOf]; omega
      | false =>
       replace HTR : Aside0 (turnsR t0 t1 yw (l1.drop (k + 1)) true (decide (t2 = yw)) = r) := HTR
       by_cases h5 : t2 = yw
       ·subst h5
        replace HTR : Aside0 (turnsR t0 t1 t2 (l1.drop (k + 1)) true true = r) := ⟨by have h := HTR.out; rwa [decide_eq_true rfl] at h⟩
        go_wp2_with (fail)
        go_roundw
        case rel => exact ⟨k + 1, true, true, by go_num, rfl, rfl, by omega, ⟨byB HBL.out⟩, HTR⟩
        case measure => simp [intOf]; omega
       ·have h6 : (t2 == yw) = false := by simpa using h5
        replace HTR : Aside0 (turnsR t0 t1 yw (l1.drop (k + 1)) true false = r) := ⟨by have h := HTR.out; rwa [decide_eq_false h5] at h⟩
        clear h5
        go_wp2_with (fail)
        go_roundw
        case rel => exact ⟨k + 1, true, false, by go_num, rfl, rfl, by omega, ⟨byB HBL.out⟩, HTR⟩
        case measure => simp [intOf]; omega
     | false =>
      by_cases h5 : t2 = yw
      ·subst h5
       have HRF : Aside0 (r = false) := ⟨by rw [← HTR.out, turnsR, if_pos ⟨rfl, rfl⟩, if_neg Bool.false_ne_true, if_pos rfl]⟩
       clear HTR
       have HBX := Aside0.mk (below_then HB.out HB.out.size HBL.out)
       go_upto_region 14 with (fail)
       go_quiet (fail)
       go_wp2_with (fail)
       go_ret
       exact ⟨by rw [HRF.out]; rfl, byB HBX.out⟩
      ·have h6 : (t2 == yw) = false := by simpa using h5
       replace HTR : Aside0 (turnsR t0 t1 yw (l1.drop (k + 1)) b1 b2 = r) := ⟨by rw [← HTR.out, turnsR, if_pos ⟨rfl, rfl⟩, if_neg Bool.false_ne_true, if_neg h5]⟩
       clear h5
       go_upto_region 14 with (fail)
       go_quiet (fail)
       go_wp2_with (fail)
       go_roundw
       case rel => exact ⟨k + 1, b1, b2, by go_num, rfl, rfl, by omega, ⟨byB HBL.out⟩, HTR⟩
       case measure => simp [intOf]; omega
    ·replace HTR : Aside0 (turnsR xw v yw (l1.drop (k + 1)) b1 b2 = r) := ⟨by rw [← HTR.out, turnsR, if_neg h1]⟩
     by_cases h2 : t0 = xw
     ·have h3 : (t1 == v) = false := by simpa using fun h => h1 ⟨h2, h⟩
      have h4 : (t1 != v) = true := by simpa using fun h => h1 ⟨h2, h⟩
      subst h2
      clear h1
      go_upto_region 14 with (fail)
      go_quiet (fail)
      go_wp2_with (fail)
      go_roundw
      case rel => exact ⟨k + 1, b1, b2, by go_num, rfl, rfl, by omega, ⟨byB HBL.out⟩, HTR⟩
      case measure => simp [intOf]; omega
     ·have h3 : (t0 == xw) = false := by simpa using h2
      have h4 : (t0 != xw) = true := by simpa using h2
      clear h1
      go_upto_region 14 with (fail)
      go_quiet (fail)
      go_wp2_with (fail)
      go_roundw
      case rel => exact ⟨k + 1, b1, b2, by go_num, rfl, rfl, by omega, ⟨byB HBL.out⟩, HTR⟩
      case measure => simp [intOf]; omega
   ·obtain rfl : k = l1.length := by omega
    rw [List.drop_length] at HTR
    have HTF : Aside0 (r = (!b1 || b2)) := ⟨HTR.out.symm⟩
    clear hk hkl HTR
    have HBX := Aside0.mk (below_then HB.out HB.out.size HBL.out)
    cases b1 <;> cases b2 <;> (go_wp2_with (fail); go_ret; exact ⟨by rw [HTF.out]; rfl, HBX.out⟩)
end Go.Proofs.Ytaodlehnfjalnaa.Print
