import Derived.Test.YtfnophaiamkmpaaM22
import Derived.Test.YtfnophaiamkmpaaM7
namespace Go.Proofs.Ytfnophaiamkmpaa.Print
open Go.RowKit Go.Proofs.YtfnophaiamkmpaaW.PrintWords Go.Proofs.YtfnophaiamkmpaaW.PrintLast Go.Proofs.YtfnophaiamkmpaaW.PrintMore
set_option linter.unusedVariables false
set_option linter.unusedSimpArgs false
/-! ### Rows of whole numbers -/
def rowC (n v : Nat) : Array Value := ((List.range n).map (fun i => Value.int .i64 (if i < v then mInf else 0))).toArray
theorem rowC_get {n v j : Nat} (h : j < n) : (rowC n v)[j]? = some (.int .i64 (if j < v then mInf else 0)) := by simp [rowC, h]
theorem rowC_zero (n : Nat) : madeCells #[.int .i64 0] n = rowC n 0 := by
 unfold madeCells rowC
 refine Array.ext ?_ (fun i h1 h2 => ?_)
 ·simp
 ·simp [Nat.mod_one]
theorem rowC_set {n v : Nat} : (rowC n v).setIfInBounds v (.int .i64 1152921504606846976) = rowC n (v + 1) := by
 show (rowC n v).setIfInBounds v (.int .i64 mInf) = rowC n (v + 1)
 refine Array.ext ?_ (fun i h1 h2 => ?_)
 ·simp [rowC]
 ·have hi : i < n := by simpa [rowC] using h2
  by_cases e : v = i
  ·subst e
   simp [rowC, Array.getElem_setIfInBounds]
  ·have h3 : (i < v + 1) ↔ i < v := by omega
   simp [rowC, Array.getElem_setIfInBounds, e, h3]
theorem infoInt : (Try.prog.info? 3).map (fun i => (i.zero, i.size, i.bytes)) = some (some (.int .i64 0), 1, 8) := by kernel_rfl
theorem run_row (n : Nat) (hn : n ≤ 20000) (w : World) : (Instr.makeSlice 25 (.int .i64 (n : Int)) (.int .i64 (n : Int))).run Try.prog w = .ok (.slice (some ⟨w.heap.size, 0, none⟩) n n) (w.alloc (.cells (rowC n 0) 3 (0, 0))) := by
 obtain ⟨i, h1, hh⟩ := Option.map_eq_some_iff.1 infoInt
 simp only [Prod.mk.injEq] at hh
 obtain ⟨h2, h3, h4⟩ := hh
 have := run_makeSlice (P := Try.prog) w 25 3 i (.int .i64 0) Try.underlying25 h1 h2 .i64 .i64 n n (by omega) (by omega) (by rw [h3]; simp; omega) (by rw [h4]; omega) (by omega)
 rw [this, h3]
 simp [← rowC_zero, Value.cells]
structure TiIs (w : World) (lo t R : Nat) (rb : Nat → Nat) (n : Nat) (W : IMat) : Prop where
 row : ∀ i, i < n → w.cell? ⟨R, i, none⟩ = some (.slice (some ⟨rb i, 0, none⟩) n n)
 cel : ∀ i, i < n → ∀ j, j < n → w.cell? ⟨rb i, j, none⟩ = some (.int .i64 (W i j))
 inj : ∀ i j, i < n → j < n → rb i = rb j → i = j
 ne : ∀ i, i < n → rb i ≠ R
 los : lo ≤ R ∧ ∀ i, i < n → lo ≤ rb i
 frz : ∀ i, i < n → ∀ j, w.frozen? ⟨rb i, j, none⟩ = false
 top : R < t ∧ ∀ i, i < n → rb i < t
 le : t ≤ w.heap.size
section
variable {w w1 : World} {lo t R n : Nat} {rb : Nat → Nat} {W : IMat}
theorem TiIs.keep (h : TiIs w lo t R rb n W) (hs : w.heap.size ≤ w1.heap.size) (hR : w1.heap[R]? = w.heap[R]?) (hb : ∀ i, i < n → w1.heap[rb i]? = w.heap[rb i]?) : TiIs w1 lo t R rb n W := by
 have hc : ∀ (b i : Nat), w1.heap[b]? = w.heap[b]? → w1.cell? ⟨b, i, none⟩ = w.cell? ⟨b, i, none⟩ := fun b i e => by unfold World.cell?; rw [e]
 exact ⟨fun i hi => (hc R i hR).trans (h.row i hi), fun i hi j hj => (hc _ j (hb i hi)).trans (h.cel i hi j hj), h.inj, h.ne, h.los, fun i hi j => (World.frozen?_of_block (hb i hi)).trans (h.frz i hi j), h.top, Nat.le_trans h.le hs⟩
theorem TiIs.far (h : TiIs w lo t R rb n W) (hb : Below t w w1) : TiIs w1 lo t R rb n W := h.keep hb.size (hb.block _ h.top.1) (fun i hi => hb.block _ (h.top.2 i hi))
theorem TiIs.low (h : TiIs w lo t R rb n W) {k : Nat} (hk : k < lo) (i : Nat) (v : Value) : TiIs (w.setCell ⟨k, i, none⟩ v) lo t R rb n W := h.keep (by rw [setCell_size]; exact Nat.le_refl _) (Below.heap_setCell _ _ _ _ (by have := h.los.1; show R ≠ k; omega)) (fun j hj => Below.heap_setCell _ _ _ _ (by have := h.los.2 j hj; show rb j ≠ k; omega))
theorem TiIs.below (h : TiIs w lo t R rb n W) (hb : Below w.heap.size w w1) : TiIs w1 lo t R rb n W := h.far (below_low hb h.le)
theorem TiIs.drew (h : TiIs w lo t R rb n W) : TiIs w.drew lo t R rb n W := h.far (below_drew (Below.refl _ _))
theorem TiIs.put (h : TiIs w lo t R rb n W) {u x : Nat} (hu : u < n) (hx : x < n) (c : Int) : TiIs (w.setCell ⟨rb u, x, none⟩ (.int .i64 c)) lo t R rb n (iset W u x c) := by
 have hne := h.ne u hu
 refine ⟨fun i hi => ?_, fun i hi j hj => ?_, h.inj, h.ne, h.los, fun i hi j => ?_, h.top, ?_⟩
 ·refine (World.cell?_setCell_other (h := fun e => ?_) ..).trans (h.row i hi)
  injection e with e
  exact hne e
 ·unfold iset
  by_cases e : i = u ∧ j = x
  ·obtain ⟨rfl, rfl⟩ := e
   rw [if_pos ⟨rfl, rfl⟩]
   exact World.cell?_setCell_same _ _ _ (h.cel i hi j hj)
  ·rw [if_neg e]
   refine (World.cell?_setCell_other (h := fun e2 => e ?_) ..).trans (h.cel i hi j hj)
   injection e2 with e2 e3
   exact ⟨(h.inj _ _ hu hi e2).symm, e3.symm⟩
 ·rw [World.frozen?_setCell]
  exact h.frz i hi j
 ·rw [setCell_size]
  exact h.le
theorem TiIs.flags (h : TiIs w lo t R rb n W) {base R2 Gb : Nat} {rb2 : Nat → Nat} {M : Mat} {g : Nat → Bool} (hT : TbIs w base R2 rb2 Gb n M g) (hb : t ≤ base) {u x : Nat} (hu : u < n) (v : Value) : TbIs (w.setCell ⟨rb u, x, none⟩ v) base R2 rb2 Gb n M g := by
 have h1 := h.top.2 u hu
 refine hT.keep (by rw [setCell_size]; exact Nat.le_refl _) ?_ ?_ (fun i hi => ?_)
 ·refine Below.heap_setCell _ _ _ _ (fun e => ?_)
  have h2 := hT.row u hu
  have h3 := h.cel u hu u hu
  have e' : R2 = rb u := e
  rw [e', h3] at h2
  cases h2
 ·refine Below.heap_setCell _ _ _ _ (fun e => ?_)
  have h2 := hT.lo
  have e' : Gb = rb u := e
  omega
 ·refine Below.heap_setCell _ _ _ _ (fun e => ?_)
  have h2 := hT.los i hi
  have e' : rb2 i = rb u := e
  omega
end
structure WtFr (s : Nat) (w : World) (n : Nat) (A : Option Addr) (len c : Nat) (rv iv : Value) : Prop where
 k0 : w.heap[s]? = some (.cells #[.int .i64 (n : Int), .slice A len c] 24 (0, 0))
 k1 : w.heap[s + 1]? = some (.cells #[.slice none 0 0, .slice none 0 0] 62 (0, 0))
 k2 : w.heap[s + 1 + 1]? = some (.cells #[rv, iv] 62 (0, 0))
section
variable {s n len c : Nat} {w w1 : World} {A : Option Addr} {rv iv : Value}
theorem WtFr.far (h : WtFr s w n A len c rv iv) (hb : Below (s + 3) w w1) : WtFr s w1 n A len c rv iv := ⟨(hb.block _ (by omega)).trans h.k0, (hb.block _ (by omega)).trans h.k1, (hb.block _ (by omega)).trans h.k2⟩
theorem WtFr.size (h : WtFr s w n A len c rv iv) : s + 3 ≤ w.heap.size := sb_lt h.k2
theorem WtFr.below (h : WtFr s w n A len c rv iv) (hb : Below w.heap.size w w1) : WtFr s w1 n A len c rv iv := h.far (below_low hb h.size)
theorem WtFr.put0 (h : WtFr s w n A len c rv iv) (v : Value) : WtFr s (w.setCell ⟨s + 1 + 1, 0, none⟩ v) n A len c v iv := ⟨(Below.heap_setCell _ _ _ _ (by show s ≠ s + 1 + 1; omega)).trans h.k0, (Below.heap_setCell _ _ _ _ (by show s + 1 ≠ s + 1 + 1; omega)).trans h.k1, sb_put h.k2 v⟩
theorem WtFr.put1 (h : WtFr s w n A len c rv iv) (v : Value) : WtFr s (w.setCell ⟨s + 1 + 1, 1, none⟩ v) n A len c rv v := ⟨(Below.heap_setCell _ _ _ _ (by show s ≠ s + 1 + 1; omega)).trans h.k0, (Below.heap_setCell _ _ _ _ (by show s + 1 ≠ s + 1 + 1; omega)).trans h.k1, sb_put h.k2 v⟩
end
theorem cells_al {w : World} {A : Option Addr} {l : List Int} (h : Kd.C (Kd.int .i64) w A l.length l) : ∀ i, i < l.length → ∃ ab ao, A = some ⟨ab, ao, none⟩ ∧ w.cell? ⟨ab, ao + i, none⟩ = some (.int .i64 (l.getD i 0)) := fun i hi => by
 rcases cells_of_C h with ⟨hz, _⟩ | ⟨_, ab, ao, hA1, hce⟩
 ·rw [hz] at hi
  simp at hi
 ·exact ⟨ab, ao, hA1, hce i hi⟩
set_option maxHeartbeats 12800000 in
set_option maxRecDepth 100000 in
theorem tb_low {w : World} {base R2 Gb n : Nat} {rb2 : Nat → Nat} {M : Mat} {g : Nat → Bool} (h : TbIs w base R2 rb2 Gb n M g) {k : Nat} (hk : k < base) (hR : R2 ≠ k) (i : Nat) (v : Value) : TbIs (w.setCell ⟨k, i, none⟩ v) base R2 rb2 Gb n M g :=
 h.keep (by rw [setCell_size]; exact Nat.le_refl _) (Below.heap_setCell _ _ _ _ hR) (Below.heap_setCell _ _ _ _ (by have := h.lo; show Gb ≠ k; omega)) (fun j hj => Below.heap_setCell _ _ _ _ (by have := h.los j hj; show rb2 j ≠ k; omega))
structure WtI (s : Nat) (w wr : World) (n : Nat) (A : Option Addr) (m c t R cap : Nat) (rb : Nat → Nat) (R2 cap2 : Nat) (rb2 : Nat → Nat) (Gb q : Nat) (W : IMat) (M : Mat) (g : Nat → Bool) : Prop where
 fr : WtFr s wr n A m c (.slice (some ⟨R, 0, none⟩) n cap) (.slice (some ⟨R2, 0, none⟩) n cap2)
 x : wr.heap[q]? = some (.cells #[.slice (some ⟨R2, 0, none⟩) n cap2, .slice (some ⟨Gb, 0, none⟩) n n] 111 (0, 0))
 ti : TiIs wr (s + 3) t R rb n W
 tb : TbIs wr t R2 rb2 Gb n M g
 hq : t ≤ q ∧ s + 3 ≤ t ∧ Gb < q ∧ ∀ i, i < n → rb2 i < q
 b : Below s w wr
section
variable {s n m c t R cap R2 cap2 Gb q : Nat} {w wr w1 : World} {A : Option Addr} {rb rb2 : Nat → Nat} {W : IMat} {M : Mat} {g : Nat → Bool}
theorem WtI.below (h : WtI s w wr n A m c t R cap rb R2 cap2 rb2 Gb q W M g) (hb : Below wr.heap.size wr w1) : WtI s w w1 n A m c t R cap rb R2 cap2 rb2 Gb q W M g :=
 ⟨h.fr.below hb, (hb.block q (sb_lt h.x)).trans h.x, h.ti.below hb, h.tb.below hb, h.hq, h.b.trans (below_low hb (by have := h.b.size; have := h.fr.size; omega))⟩
theorem WtI.drew (h : WtI s w wr n A m c t R cap rb R2 cap2 rb2 Gb q W M g) : WtI s w wr.drew n A m c t R cap rb R2 cap2 rb2 Gb q W M g := h.below (below_drew (Below.refl _ _))
theorem WtI.put (h : WtI s w wr n A m c t R cap rb R2 cap2 rb2 Gb q W M g) {u x : Nat} (hu : u < n) (hx : x < n) (d : Int) : WtI s w (wr.setCell ⟨rb u, x, none⟩ (.int .i64 d)) n A m c t R cap rb R2 cap2 rb2 Gb q (iset W u x d) M g := by
 have h1 := h.ti.los.2 u hu
 have h2 := h.ti.top.2 u hu
 have h3 := h.hq
 refine ⟨⟨(Below.heap_setCell _ _ _ _ ?_).trans h.fr.k0, (Below.heap_setCell _ _ _ _ ?_).trans h.fr.k1, (Below.heap_setCell _ _ _ _ ?_).trans h.fr.k2⟩, (Below.heap_setCell _ _ _ _ ?_).trans h.x, h.ti.put hu hx d, h.ti.flags h.tb (Nat.le_refl _) hu _, h.hq, below_put h.b _ _ (by show s ≤ rb u; omega)⟩
 ·show s ≠ rb u
  omega
 ·show s + 1 ≠ rb u
  omega
 ·show s + 1 + 1 ≠ rb u
  omega
 ·show q ≠ rb u
  omega
theorem WtI.elim {M' : Mat} {g' : Nat → Bool} (h : WtI s w wr n A m c t R cap rb R2 cap2 rb2 Gb q W M g) (hb : Bel (TbT Gb rb2 n) wr w1) (ht : TbIs w1 t R2 rb2 Gb n M' g') : WtI s w w1 n A m c t R cap rb R2 cap2 rb2 Gb q W M' g' := by
 have h3 := h.hq
 have hT : ∀ k, TbT Gb rb2 n k → t ≤ k := fun k hk => by
  rcases hk with rfl | ⟨i, hi, rfl⟩
  ·exact h.tb.lo
  ·exact h.tb.los i hi
 have hbt : Below t wr w1 := hb.out h.ti.le hT
 refine ⟨h.fr.far (below_low hbt h3.2.1), (hb.block q (sb_lt h.x) (fun hx => ?_)).trans h.x, h.ti.far hbt, ht, h.hq, h.b.trans (below_low hbt (by omega))⟩
 rcases hx with hx | ⟨i, hi, hx⟩
 ·omega
 ·have := h3.2.2.2 i hi
  omega
end
structure WtIs (w : World) (v : Value) (n : Nat) (W : IMat) (M : Mat) : Prop where
 out : ∃ (lo t R cap : Nat) (rb : Nat → Nat) (base R2 cap2 Gb : Nat) (rb2 : Nat → Nat) (g : Nat → Bool), v = .agg #[.slice (some ⟨R, 0, none⟩) n cap, .slice (some ⟨R2, 0, none⟩) n cap2] ∧ n ≤ cap ∧ n ≤ cap2 ∧ TiIs w lo t R rb n W ∧ TbIs w base R2 rb2 Gb n M g
set_option maxHeartbeats 12800000 in
set_option maxRecDepth 100000 in
theorem ref42_Weights.calls {w : World} {n : Nat} {gA : Option Addr} {gc : Nat} {arcs : List S58} {lA : Option Addr} {lc : Nat} {L : List Int} {wA : Option Addr} {wc : Nat} {ws : List Int} (hk : Hk n arcs L) (hp : 0 < n) (hn : n ≤ 1000) (hg : Kd.C k58 w gA arcs.length arcs) (hgc : arcs.length ≤ gc) (hl : Kd.C (Kd.int .i64) w lA L.length L) (hlc : L.length ≤ lc) (hw : Kd.C (Kd.int .i64) w wA ws.length ws) (hwc : ws.length ≤ wc) (hwl : ws.length = arcs.length) (hal : arcs.length ≤ 1000000) :
  Calls Try.prog 29 #[.agg #[.int .i64 (n : Int), .slice gA arcs.length gc], .slice lA L.length lc, .slice wA ws.length wc] w fun e w' => Below w.heap.size w w' ∧ ∃ v, e = .returned v ∧ WtIs w' v n (relL n arcs L ws n).1 (relL n arcs L ws n).2.1 := by
 have HG := Aside0.mk hg
 have HGC := Aside0.mk hgc
 have HL := Aside0.mk hl
 have HLC := Aside0.mk hlc
 have HW := Aside0.mk hw
 have HWC := Aside0.mk hwc
 have HK := Aside0.mk hk
 have hll : L.length = n := hk.ord.len
 have HLL := Aside0.mk hll
 have HWL := Aside0.mk hwl
 clear hg hgc hl hlc hw hwc hk hll hwl
 rw [HLL.out, HWL.out]
 obtain ⟨m, HME⟩ : ∃ m, Aside0 (arcs.length = m) := ⟨_, ⟨rfl⟩⟩
 rw [HME.out] at hal ⊢
 have hmk := run_row n (by omega)
 go_enter Try.func29, Try.ntmps29
 go_wp2_with (fail)
 have hba : Below w.heap.size w (((w.alloc (Obj.cells #[.int .i64 (n : Int), .slice gA m gc] 24)).alloc (Obj.cells #[.slice none 0 0, .slice none 0 0] 62)).alloc (Obj.cells #[.slice none 0 0, .slice none 0 0] 62)) := (((Below.refl _ _).alloc (Nat.le_refl _) _).alloc (by simp) _).alloc (by simp; omega) _
 have HB0 := Aside0.mk hba
 have HF0 : Aside0 (WtFr w.heap.size (((w.alloc (Obj.cells #[.int .i64 (n : Int), .slice gA m gc] 24)).alloc (Obj.cells #[.slice none 0 0, .slice none 0 0] 62)).alloc (Obj.cells #[.slice none 0 0, .slice none 0 0] 62)) n gA m gc (.slice none 0 0) (.slice none 0 0)) := ⟨by
  obtain ⟨a0, a1, a2, _⟩ := alloc4 w (Obj.cells #[.int .i64 (n : Int), .slice gA m gc] 24) (Obj.cells #[.slice none 0 0, .slice none 0 0] 62) (Obj.cells #[.slice none 0 0, .slice none 0 0] 62) (Obj.cells #[.slice none 0 0, .slice none 0 0] 62)
  have hl : ∀ j, j ≤ w.heap.size + 1 + 1 → ((((w.alloc (Obj.cells #[.int .i64 (n : Int), .slice gA m gc] 24)).alloc (Obj.cells #[.slice none 0 0, .slice none 0 0] 62)).alloc (Obj.cells #[.slice none 0 0, .slice none 0 0] 62)).alloc (Obj.cells #[.slice none 0 0, .slice none 0 0] 62)).heap[j]? = (((w.alloc (Obj.cells #[.int .i64 (n : Int), .slice gA m gc] 24)).alloc (Obj.cells #[.slice none 0 0, .slice none 0 0] 62)).alloc (Obj.cells #[.slice none 0 0, .slice none 0 0] 62)).heap[j]? := fun j hj => ((Below.refl _ (((w.alloc (Obj.cells #[.int .i64 (n : Int), .slice gA m gc] 24)).alloc (Obj.cells #[.slice none 0 0, .slice none 0 0] 62)).alloc (Obj.cells #[.slice none 0 0, .slice none 0 0] 62))).alloc (Nat.le_refl _) (Obj.cells #[.slice none 0 0, .slice none 0 0] 62)).block j (by simp; omega)
  exact ⟨(hl _ (by omega)).symm.trans a0, (hl _ (by omega)).symm.trans a1, (hl _ (by omega)).symm.trans a2⟩⟩
 clear hba
 generalize (((w.alloc (Obj.cells #[.int .i64 (n : Int), .slice gA m gc] 24)).alloc (Obj.cells #[.slice none 0 0, .slice none 0 0] 62)).alloc (Obj.cells #[.slice none 0 0, .slice none 0 0] 62)) = w0 at HB0 HF0 ⊢
 go_loopw [8] (fun i wr => ∃ (k : Nat) (bl : List Nat) (rv : Value), i = .int .i64 (k : Int) ∧ k ≤ n ∧ Aside0 (WtFr w.heap.size wr n gA m gc rv (.slice none 0 0)) ∧ Aside0 (bl.length = k ∧ bl.Nodup ∧ ∀ b ∈ bl, w.heap.size + 3 ≤ b ∧ wr.heap[b]? = some (.cells (rowC n n) 3 (0, 0))) ∧ Aside0 (wr.ownsRow (w.heap.size + 3) 25 1 rv k (encs (encS n) bl)) ∧ Aside0 (Below w.heap.size w wr)) (fun i _ => n - (intOf i).toNat)
 case atStart => exact ⟨0, [], _, rfl, Nat.zero_le _, HF0, ⟨rfl, List.nodup_nil, by simp⟩, ⟨own_nil _ _ _ _⟩, HB0⟩
 case round => as_aux_lemma =>
  clear HF0 HB0
  obtain ⟨k, bl, rv, rfl, hk, HF, HD, HO, HB⟩ := hrel
  have hc0 := (blk_cell HF.out.k0 0).trans rfl
  by_cases hlt : k < n
  ·obtain ⟨wo, hwo⟩ : ∃ q, q = wr := ⟨_, rfl⟩
   subst hwo
   go_wp2_with (fail)
   have HB1 : Aside0 (Below wo.heap.size wo (wo.alloc (Obj.cells (rowC n 0) 3))) := ⟨(Below.refl _ _).alloc (Nat.le_refl _) _⟩
   have HR1 : Aside0 ((wo.alloc (Obj.cells (rowC n 0) 3)).heap[wo.heap.size]? = some (.cells (rowC n 0) 3 (0, 0))) := ⟨heap_alloc_new wo _⟩
   generalize wo.alloc (Obj.cells (rowC n 0) 3) = w1 at HB1 HR1 ⊢
   go_loopw [10] (fun i wr => ∃ v : Nat, i = .int .i64 (v : Int) ∧ v ≤ n ∧ Aside0 (wr.heap[wo.heap.size]? = some (.cells (rowC n v) 3 (0, 0))) ∧ Aside0 (Below wo.heap.size wo wr)) (fun i _ => n - (intOf i).toNat)
   case atStart => exact ⟨0, rfl, Nat.zero_le _, HR1, HB1⟩
   case round => as_aux_lemma =>
    clear HR1 HB1 hc0
    obtain ⟨v, rfl, hv, HR, HBq⟩ := hrel
    have HFq := Aside0.mk (HF.out.below HBq.out)
    have hc0 := (blk_cell HFq.out.k0 0).trans rfl
    by_cases hvn : v < n
    ·have hcv := (blk_cell HR.out v).trans (rowC_get hvn)
     have hfv : wr.frozen? ⟨wo.heap.size, v, none⟩ = false := fz_of_blk HR.out
     rw [if_neg (Nat.lt_irrefl v)] at hcv
     go_wp2
     go_roundw
     case rel => exact ⟨v + 1, by go_num, by omega, ⟨by rw [sb_put HR.out, rowC_set]⟩, ⟨below_put HBq.out _ _ (Nat.le_refl _)⟩⟩
     case measure => simp [intOf]; omega
    ·have hvn2 : v = n := by omega
     rw [hvn2] at HR
     have HOq := Aside0.mk (own_move HO.out (fun q hq => HBq.out.block q (own_lt HO.out q hq)))
     have HBs := Aside0.mk (below_low HBq.out HF.out.size)
     have hcq := (blk_cell HFq.out.k2 0).trans rfl
     go_wp2_with (
      refine print_append_cells (w0 := wo) (w.heap.size + 3) (by rfl) (.tmp 38) (.tmp 40) 59 25 (.slice none 0 0) 1 24 rfl Try.underlying59 infoInts rfl (by decide) (by decide) rv k (encs (encS n) bl) [encS n wo.heap.size] rfl rfl rfl (by simp [Value.oneCell']) HOq.out HBs.out HFq.out.size ?_ ?_
      ·omega
      intro v4 w4 ho4 hb4 hg4 hat4
      obtain ⟨A4, c4, rfl⟩ := own_slice ho4
      have HO4 := Aside0.mk ho4
      have HB4 := Aside0.mk hb4
      have HG4 := Aside0.mk hg4
      have HF4 := Aside0.mk (HF.out.far hb4)
      clear ho4 hb4 hg4 hat4
      have hc4 := (blk_cell HF4.out.k2 0).trans rfl
      have hf4 : w4.frozen? ⟨w.heap.size + 1 + 1, 0, none⟩ = false := fz_of_blk HF4.out.k2)
     go_roundw
     case rel =>
      have hsz := HF.out.size
      refine ⟨k + 1, bl ++ [wo.heap.size], .slice A4 (k + 1) c4, by go_num, by omega, ⟨HF4.out.put0 _⟩, ⟨by rw [List.length_append, HD.out.1]; rfl, ?_, fun b hb => ?_⟩, ⟨by
       rw [encs_append]
       exact own_move HO4.out (fun q hq => Below.heap_setCell _ _ _ _ (by have := own_base HO4.out q hq; show q ≠ w.heap.size + 1 + 1; omega))⟩, ⟨below_put (HB.out.trans (below_low HB4.out (by omega))) _ _ (by show _ ≤ w.heap.size + 1 + 1; omega)⟩⟩
      ·rw [List.nodup_append]
       exact ⟨HD.out.2.1, by simp, fun a ha b hb => by
        have h1 := sb_lt (HD.out.2.2 a ha).2
        simp at hb
        omega⟩
      ·have hh : w.heap.size + 3 ≤ b ∧ wr.heap[b]? = some (.cells (rowC n n) 3 (0, 0)) := by
        rcases List.mem_append.1 hb with hb | hb
        ·have h1 := HD.out.2.2 b hb
         exact ⟨h1.1, (HBq.out.block b (sb_lt h1.2)).trans h1.2⟩
        ·simp at hb
         subst hb
         exact ⟨by omega, HR.out⟩
       refine ⟨hh.1, ?_⟩
       rw [Below.heap_setCell _ _ _ _ (by show b ≠ w.heap.size + 1 + 1; have := hh.1; omega)]
       exact (HG4.out.block b (sb_lt hh.2) (own_ne HOq.out hh.2 (by decide))).trans hh.2
     case measure => simp [intOf]; omega
  ·have hk2 : k = n := by omega
   rw [hk2] at HD HO
   obtain ⟨Ao, cap, rfl⟩ := own_slice HO.out
   have hcap : n ≤ cap := own_le HO.out
   have hform : ∃ R, Ao = some ⟨R, 0, none⟩ := by
    rcases HO.out.2 with ⟨_, hz⟩ | ⟨g, cap', cur, hv, _⟩
    ·omega
    ·injection hv with h1
     exact ⟨g, h1⟩
   obtain ⟨R, rfl⟩ := hform
   have hty := own_typed HO.out R rfl
   have hRb := own_base HO.out R rfl
   have hbl : ∀ i, i < n → bl[i]? = some (bl.getD i 0) := fun i hi => by simp [List.getElem?_eq_getElem (show i < bl.length by have := HD.out.1; omega)]
   have hbm : ∀ i, i < n → w.heap.size + 3 ≤ bl.getD i 0 ∧ wr.heap[bl.getD i 0]? = some (.cells (rowC n n) 3 (0, 0)) := fun i hi => HD.out.2.2 _ (List.mem_of_getElem? (hbl i hi))
   have HT0 : Aside0 (TiIs wr (w.heap.size + 3) wr.heap.size R (fun i => bl.getD i 0) n (relA arcs ws 0)) := ⟨by
    refine ⟨fun i hi => ?_, fun i hi j hj => ?_, fun i j hi hj e => ?_, fun i hi e => ?_, ⟨hRb, fun i hi => (hbm i hi).1⟩, fun i hi j => fz_of_blk (hbm i hi).2, ⟨own_lt HO.out R rfl, fun i hi => sb_lt (hbm i hi).2⟩, Nat.le_refl _⟩
    ·have h1 := (own_at_of (d := 0) HO.out (i : Int) (by omega) (by omega)).1
     rw [Int.toNat_natCast] at h1
     rw [h1]
     simp [rdOf, encS]
    ·have h1 := (blk_cell (hbm i hi).2 j).trans (rowC_get hj)
     rw [if_pos hj] at h1
     exact h1
    ·have h1 : bl[i]? = bl[j]? := by rw [hbl i hi, hbl j hj]; exact congrArg some e
     exact (List.getElem?_inj (by have := HD.out.1; omega) HD.out.2.1).1 h1
    ·obtain ⟨cells, hc⟩ := hty
     have h2 := (hbm i hi).2
     have e' : bl.getD i 0 = R := e
     rw [e', hc] at h2
     injection h2 with h2
     injection h2 with _ h3
     exact absurd h3 (by decide)⟩
   clear hbl hbm hty
   generalize (fun i => bl.getD i 0) = rb at HT0
   have hcH := (chk_ok HK.out.chk).2.2
   have HS := Start.calls n gA gc arcs wr (Kd.C_below HG.out HB.out) HGC.out (by omega) (by have := HME.out; omega) HK.out.chk
   rw [HME.out] at HS
   have HSC := Aside0.mk HS
   have hc1 := (blk_cell HF.out.k0 1).trans rfl
   have hTs := HT0.out.le
   have HTT := Aside0.mk hTs
   obtain ⟨t, HTE⟩ : ∃ t, Aside0 (wr.heap.size = t) := ⟨_, ⟨rfl⟩⟩
   clear HS hmk HD HO hcH hTs
   go_wp2_with (fail)
   refine HSC.out.mono ?_
   rintro e w2 ⟨hb2, (⟨h0, _⟩ | ⟨R2, cap2, Gb, rb2, rfl, hcap2, hT2⟩)⟩
   ·omega
   have HT2 := Aside0.mk hT2
   have HT := Aside0.mk (HT0.out.below hb2)
   have HF2 := Aside0.mk (HF.out.below hb2)
   have HB2 := Aside0.mk (below_then HB.out HB.out.size hb2)
   have HF2q := Aside0.mk HF2.out.size
   have HTQ : Aside0 (t ≤ w2.heap.size ∧ w.heap.size + 3 ≤ t ∧ Gb < w2.heap.size ∧ ∀ i, i < n → rb2 i < w2.heap.size) := ⟨by have := hb2.size; have := HTE.out; omega, by have := HF.out.size; have := HTE.out; omega, hT2.top.2, hT2.tops⟩
   unfold tabV
   clear hb2 hT2 HT0 HF HB HSC hc0 hc1
   go_upto_region 12 with (fail)
   have hba : Below w2.heap.size w2 (w2.alloc (Obj.cells #[.slice (some ⟨R2, 0, none⟩) n cap2, .slice (some ⟨Gb, 0, none⟩) n n] 111)) := (Below.refl _ _).alloc (Nat.le_refl _) _
   have HX := Aside0.mk (heap_alloc_new w2 (Obj.cells #[.slice (some ⟨R2, 0, none⟩) n cap2, .slice (some ⟨Gb, 0, none⟩) n n] 111))
   replace HT := Aside0.mk (HT.out.below hba)
   replace HT2 := Aside0.mk (HT2.out.below hba)
   replace HF2 := Aside0.mk (HF2.out.below hba)
   replace HB2 := Aside0.mk (below_then HB2.out HB2.out.size hba)
   have hq3 : w.heap.size + 3 ≤ w2.heap.size := HF2q.out
   clear hba
   generalize w2.alloc (Obj.cells #[.slice (some ⟨R2, 0, none⟩) n cap2, .slice (some ⟨Gb, 0, none⟩) n n] 111) = w3 at HX HT HT2 HF2 HB2 ⊢
   generalize w2.heap.size = q at HX hq3 HTQ ⊢
   have hf2 : w3.frozen? ⟨w.heap.size + 1 + 1, 1, none⟩ = false := fz_of_blk HF2.out.k2
   have hd2 := (blk_cell HF2.out.k2 1).trans rfl
   have hx0 := (blk_cell HX.out 0).trans rfl
   go_wp2_with (fail)
   rw [HTE.out] at HT HT2
   have hI : WtI w.heap.size w (w3.setCell ⟨w.heap.size + 1 + 1, 1, none⟩ (.slice (some ⟨R2, 0, none⟩) n cap2)) n gA m gc t R cap rb R2 cap2 rb2 Gb q (relA arcs ws 0) (stM arcs m) (fun _ => false) := by
    have hne : R2 ≠ w.heap.size + 1 + 1 := fun e => by
     have h1 := HT2.out.row 0 hp
     have h2 := (blk_cell HF2.out.k2 0).trans rfl
     rw [e, h2] at h1
     injection h1 with h1
     injection h1 with h1
     injection h1 with h1
     injection h1 with h1
     have h3 := HT2.out.los 0 hp
     have h4 := HT.out.top.1
     omega
    have htq := HTQ.out
    refine ⟨HF2.out.put1 _, (Below.heap_setCell _ _ _ _ (by show q ≠ w.heap.size + 1 + 1; omega)).trans HX.out, HT.out.low (by omega) 1 (.slice (some ⟨R2, 0, none⟩) n cap2), tb_low HT2.out (by omega) hne 1 (.slice (some ⟨R2, 0, none⟩) n cap2), ⟨htq.1, htq.2.1, htq.2.2⟩, below_put HB2.out _ _ (by show _ ≤ w.heap.size + 1 + 1; omega)⟩
   have HI := Aside0.mk hI
   generalize w3.setCell ⟨w.heap.size + 1 + 1, 1, none⟩ (.slice (some ⟨R2, 0, none⟩) n cap2) = w4 at HI ⊢
   clear hI HT HT2 HF2 HB2 HX HTE HTT HTQ hf2 hd2 hx0 hq3 hRb hlt hk2 hk
   go_loopw [12] (fun i wr => ∃ j : Nat, i = .int .i64 (j : Int) ∧ j ≤ m ∧ Aside0 (WtI w.heap.size w wr n gA m gc t R cap rb R2 cap2 rb2 Gb q (relA arcs ws j) (stM arcs m) (fun _ => false))) (fun i _ => m - (intOf i).toNat)
   case atStart => exact ⟨0, rfl, Nat.zero_le _, HI⟩
   case round => as_aux_lemma =>
    clear HI
    obtain ⟨j, rfl, hj, HI⟩ := hrel
    have hc0 := (blk_cell HI.out.fr.k0 0).trans rfl
    have hc1 := (blk_cell HI.out.fr.k0 1).trans rfl
    by_cases hjm : j < m
    ·obtain ⟨ad, rfl, hx0, hx1⟩ := at_T58 HG.out (j : Int) (by omega) (by have := HME.out; omega)
     replace hx0 := (HI.out.b.cell (World.block_lt_of_cell? w _ hx0)).trans hx0
     replace hx1 := (HI.out.b.cell (World.block_lt_of_cell? w _ hx1)).trans hx1
     obtain ⟨wb, wo, rfl, hwk⟩ := cells_al HW.out j (by have := HME.out; have := HWL.out; omega)
     replace hwk := (HI.out.b.cell (World.block_lt_of_cell? w _ hwk)).trans hwk
     rw [rd_getD] at hx0 hx1
     have har := (chk_ok HK.out.chk).2.2 j (by have := HME.out; omega)
     rw [← gA_ _ (by have := HME.out; omega)] at har
     have HM1 := Aside0.mk (show relA arcs ws (j + 1) = if 0 ≤ ws.getD j 0 ∧ ws.getD j 0 < relA arcs ws j (arcs.getD j z58).f0.toNat (arcs.getD j z58).f1.toNat then iset (relA arcs ws j) (arcs.getD j z58).f0.toNat (arcs.getD j z58).f1.toNat (ws.getD j 0) else relA arcs ws j from rfl)
     generalize arcs.getD j z58 = y at hx0 hx1 har HM1
     generalize ws.getD j 0 = d at hwk HM1
     generalize relA arcs ws j = W at HI HM1
     obtain ⟨y0, y1⟩ := y
     simp only at hx0 hx1 har HM1
     obtain ⟨u, rfl⟩ := Int.eq_ofNat_of_zero_le har.1
     obtain ⟨x, rfl⟩ := Int.eq_ofNat_of_zero_le har.2.2.1
     have hu : u < n := by omega
     have hx : x < n := by omega
     simp only [Int.toNat_natCast] at hx0 hx1 HM1
     clear har
     go_upto_region 17 with (fail)
     have hba : Below wr.heap.size wr (wr.alloc (Obj.cells #[Value.int IntKind.i64 ↑u, Value.int IntKind.i64 ↑x] 58)) := (Below.refl _ _).alloc (Nat.le_refl _) _
     have HNE : Aside0 (∀ i, i < n → wr.heap.size ≠ rb i) := ⟨fun i hi => by have := HI.out.ti.top.2 i hi; have := HI.out.ti.le; omega⟩
     replace HI := Aside0.mk (HI.out.below hba)
     have HK1 := Aside0.mk (heap_alloc_new wr (Obj.cells #[Value.int IntKind.i64 ↑u, Value.int IntKind.i64 ↑x] 58))
     replace hwk := (hba.cell (World.block_lt_of_cell? wr _ hwk)).trans hwk
     generalize wr.alloc (Obj.cells #[Value.int IntKind.i64 ↑u, Value.int IntKind.i64 ↑x] 58) = wq at HI HK1 hwk ⊢
     generalize wr.heap.size = b6 at HK1 HNE ⊢
     clear hc0 hc1 hx0 hx1 hba
     have z1 := (blk_cell HI.out.fr.k2 0).trans rfl
     have z2 := (blk_cell HK1.out 0).trans rfl
     have z3 := HI.out.ti.row u hu
     have z4 := (blk_cell HK1.out 1).trans rfl
     have z5 := HI.out.ti.cel u hu x hx
     generalize hWe : W u x = e0 at z5
     rw [hWe] at HM1
     refine s_ (fun w' => w'.cell? ⟨wb, wo + j, none⟩ = some (.int .i64 d) ∧ w'.cell? ⟨w.heap.size + 1 + 1, 0, none⟩ = some (.slice (some ⟨R, 0, none⟩) n cap) ∧ w'.cell? ⟨b6, 0, none⟩ = some (.int .i64 (u : Int)) ∧ w'.cell? ⟨R, u, none⟩ = some (.slice (some ⟨rb u, 0, none⟩) n n) ∧ w'.cell? ⟨b6, 1, none⟩ = some (.int .i64 (x : Int)) ∧ w'.cell? ⟨rb u, x, none⟩ = some (.int .i64 e0)) [] ⟨hwk, z1, z2, z3, z4, z5⟩ (fun hHeld => ?_)
     have HI2 := Aside0.mk HI.out.drew
     have HK2 : Aside0 (wq.drew.heap[b6]? = some (.cells #[Value.int IntKind.i64 ↑u, Value.int IntKind.i64 ↑x] 58 (0, 0))) := ⟨HK1.out⟩
     clear hwk z1 z2 z3 z4 z5
     generalize wq.drew = wd at HI2 HK2 hHeld ⊢
     clear HI HK1
     by_cases hd : 0 ≤ d
     ·by_cases hde : d < e0
      ·have HE : Aside0 (relA arcs ws (j + 1) = iset W u x d) := ⟨by rw [HM1.out, if_pos ⟨hd, hde⟩]⟩
       refine p_ 0 60 ?_
       refine p_ 1 61 ?_
       refine p_ 2 62 ?_
       refine t6_ 3 63 hHeld ?_
       refine p_ 4 64 ?_
       refine p_ 5 65 ?_
       refine p_ 6 66 ?_
       refine p_ 7 67 ?_
       refine p_ 8 68 ?_
       refine t6_ 9 69 hHeld ?_
       refine p_ 10 70 ?_
       refine t6_ 11 71 hHeld ?_
       refine p_ 12 72 ?_
       refine t6_ 13 73 hHeld ?_
       refine p_ 14 74 ?_
       refine t6_ 15 75 hHeld ?_
       refine p_ 16 76 ?_
       refine t6_ 17 77 hHeld ?_
       refine p_ 18 78 ?_
       refine t6_ 19 79 hHeld ?_
       refine p_ 20 80 ?_
       refine p_ 21 81 ?_
       refine d_ ?_
       have hwk := hHeld.1
       clear hHeld
       go_upto_region 18 with (fail)
       have z1 := (blk_cell HI2.out.fr.k2 0).trans rfl
       have z2 := (blk_cell HK2.out 0).trans rfl
       have z3 := HI2.out.ti.row u hu
       have z4 := (blk_cell HK2.out 1).trans rfl
       refine s_ (fun w' => w'.cell? ⟨wb, wo + j, none⟩ = some (.int .i64 d) ∧ w'.cell? ⟨w.heap.size + 1 + 1, 0, none⟩ = some (.slice (some ⟨R, 0, none⟩) n cap) ∧ w'.cell? ⟨b6, 0, none⟩ = some (.int .i64 (u : Int)) ∧ w'.cell? ⟨R, u, none⟩ = some (.slice (some ⟨rb u, 0, none⟩) n n) ∧ w'.cell? ⟨b6, 1, none⟩ = some (.int .i64 (x : Int))) [13] ⟨hwk, z1, z2, z3, z4⟩ (fun hHeld => ?_)
       have HI3 := Aside0.mk HI2.out.drew
       clear hwk z1 z2 z3 z4
       generalize wd.drew = we at HI3 hHeld ⊢
       clear HI2 HK2
       refine p_ 0 82 ?_
       refine t5_ 1 83 hHeld ?_
       refine p_ 2 84 ?_
       refine t5_ 3 85 hHeld ?_
       refine p_ 4 86 ?_
       refine t5_ 5 87 hHeld ?_
       refine p_ 6 88 ?_
       refine t5_ 7 89 hHeld ?_
       refine p_ 8 90 ?_
       refine p_ 9 91 ?_
       refine p_ 10 92 ?_
       refine t5_ 11 93 hHeld ?_
       refine p_ 12 94 ?_
       have hcs_ : we.cell? ⟨rb u, x, none⟩ = _ := HI3.out.ti.cel u hu x hx
       have hfs_ : we.frozen? ⟨rb u, x, none⟩ = false := HI3.out.ti.frz u hu x
       refine l_ 13 (fun K hK => ?_)
       refine skip_ (w1 := ?_) (by rfl) rfl ?_ ?_
       rotate_left; (·go_simp; rfl)
       refine hK.out _ _ ?_
       clear hK K
       refine d_ ?_
       clear hHeld hcs_ hfs_
       have HI4 := Aside0.mk (HI3.out.put hu hx d)
       rw [← HE.out] at HI4
       generalize we.setCell ⟨rb u, x, none⟩ (.int .i64 d) = wf at HI4 ⊢
       go_wp2_with (fail)
       go_roundw
       case rel => exact ⟨j + 1, by go_num, by omega, HI4⟩
       case measure => simp [intOf]; omega
      ·have HE : Aside0 (relA arcs ws (j + 1) = W) := ⟨by rw [HM1.out, if_neg (fun h => hde h.2)]⟩
       rw [← HE.out] at HI2
       refine p_ 0 60 ?_
       refine p_ 1 61 ?_
       refine p_ 2 62 ?_
       refine t6_ 3 63 hHeld ?_
       refine p_ 4 64 ?_
       refine p_ 5 65 ?_
       refine p_ 6 66 ?_
       refine p_ 7 67 ?_
       refine p_ 8 68 ?_
       refine t6_ 9 69 hHeld ?_
       refine p_ 10 70 ?_
       refine t6_ 11 71 hHeld ?_
       refine p_ 12 72 ?_
       refine t6_ 13 73 hHeld ?_
       refine p_ 14 74 ?_
       refine t6_ 15 75 hHeld ?_
       refine p_ 16 76 ?_
       refine t6_ 17 77 hHeld ?_
       refine p_ 18 78 ?_
       refine t6_ 19 79 hHeld ?_
       refine p_ 20 80 ?_
       refine p_ 21 81 ?_
       refine d_ ?_
       clear hHeld
       go_wp2_with (fail)
       go_roundw
       case rel => exact ⟨j + 1, by go_num, by omega, HI2⟩
       case measure => simp [intOf]; omega
     ·have HE : Aside0 (relA arcs ws (j + 1) = W) := ⟨by rw [HM1.out, if_neg (fun h => hd h.1)]⟩
      rw [← HE.out] at HI2
      refine p_ 0 60 ?_
      refine p_ 1 61 ?_
      refine p_ 2 62 ?_
      refine t6_ 3 63 hHeld ?_
      refine p_ 4 64 ?_
      refine p_ 5 65 ?_
      refine p_ 6 66 (v := undef) ?_ (hy := Or.inr ⟨by rfl, by rfl⟩)
      refine p_ 7 67 (v := undef) ?_ (hy := Or.inr ⟨by rfl, by rfl⟩)
      refine p_ 8 68 (v := undef) ?_ (hy := Or.inr ⟨by rfl, by rfl⟩)
      refine p_ 9 69 (v := undef) ?_ (hy := Or.inr ⟨by rfl, by rfl⟩)
      refine p_ 10 70 (v := undef) ?_ (hy := Or.inr ⟨by rfl, by rfl⟩)
      refine p_ 11 71 (v := undef) ?_ (hy := Or.inr ⟨by rfl, by rfl⟩)
      refine p_ 12 72 (v := undef) ?_ (hy := Or.inr ⟨by rfl, by rfl⟩)
      refine p_ 13 73 (v := undef) ?_ (hy := Or.inr ⟨by rfl, by rfl⟩)
      refine p_ 14 74 (v := undef) ?_ (hy := Or.inr ⟨by rfl, by rfl⟩)
      refine p_ 15 75 (v := undef) ?_ (hy := Or.inr ⟨by rfl, by rfl⟩)
      refine p_ 16 76 (v := undef) ?_ (hy := Or.inr ⟨by rfl, by rfl⟩)
      refine p_ 17 77 (v := undef) ?_ (hy := Or.inr ⟨by rfl, by rfl⟩)
      refine p_ 18 78 (v := undef) ?_ (hy := Or.inr ⟨by rfl, by rfl⟩)
      refine p_ 19 79 (v := undef) ?_ (hy := Or.inr ⟨by rfl, by rfl⟩)
      refine p_ 20 80 (v := undef) ?_ (hy := Or.inr ⟨by rfl, by rfl⟩)
      refine p_ 21 81 ?_
      refine d_ ?_
      clear hHeld
      go_wp2_with (fail)
      go_roundw
      case rel => exact ⟨j + 1, by go_num, by omega, HI2⟩
      case measure => simp [intOf]; omega
    ·have hjm2 : j = m := by omega
     rw [hjm2] at HI
     have HRE0 : Aside0 ((relA arcs ws m, stM arcs m, fun _ => false) = relL n arcs L ws 0) := ⟨by rw [← HME.out]; rfl⟩
     replace HI : Aside0 (WtI w.heap.size w wr n gA m gc t R cap rb R2 cap2 rb2 Gb q (relL n arcs L ws 0).1 (relL n arcs L ws 0).2.1 (relL n arcs L ws 0).2.2) := ⟨by rw [← HRE0.out]; exact HI.out⟩
     clear HRE0
     go_wp2_with (fail)
     clear hc0 hc1 hjm hjm2
     go_loopw [14] (fun i wr => ∃ k : Nat, i = .int .i64 (k : Int) ∧ k ≤ n ∧ Aside0 (WtI w.heap.size w wr n gA m gc t R cap rb R2 cap2 rb2 Gb q (relL n arcs L ws k).1 (relL n arcs L ws k).2.1 (relL n arcs L ws k).2.2)) (fun i _ => n - (intOf i).toNat)
     case atStart => exact ⟨0, rfl, Nat.zero_le _, HI⟩
     case round => as_aux_lemma =>
      clear HI
      obtain ⟨k, rfl, hk, HI⟩ := hrel
      by_cases hkn : k < n
      ·obtain ⟨lb, lo, rfl, hlk⟩ := cells_al HL.out k (by have := HLL.out; omega)
       replace hlk := (HI.out.b.cell (World.block_lt_of_cell? w _ hlk)).trans hlk
       obtain ⟨hv, hve⟩ := HK.out.vtx_lt hkn
       rw [hve] at hlk
       have HR1 := Aside0.mk (show relL n arcs L ws (k + 1) = (relU (tElim (relL n arcs L ws k).2.1 (relL n arcs L ws k).2.2 (vtx L k) n).1 (gset (relL n arcs L ws k).2.2 (vtx L k)) (vtx L k) n (relL n arcs L ws k).1 n, (tElim (relL n arcs L ws k).2.1 (relL n arcs L ws k).2.2 (vtx L k) n).1, gset (relL n arcs L ws k).2.2 (vtx L k)) from rfl)
       have HBD := Aside0.mk (relL_b n arcs L ws k)
       generalize vtx L k = v at hv hve hlk HR1
       generalize (relL n arcs L ws k).1 = W at HI HR1 HBD
       generalize (relL n arcs L ws k).2.1 = M at HI HR1
       generalize (relL n arcs L ws k).2.2 = g at HI HR1
       have x0 := (blk_cell HI.out.x 0).trans rfl
       have x1 := (blk_cell HI.out.x 1).trans rfl
       go_wp2_with (fail)
       refine (Eliminate.calls t R2 cap2 Gb n rb2 M g v wr HI.out.tb hv (by omega) hcap2).mono ?_
       rintro e w5 ⟨rfl, hT5, hB5⟩
       replace HI := Aside0.mk (HI.out.elim hB5 hT5)
       generalize (tElim M g v n).1 = M' at HI HR1
       generalize (tElim M g v n).2 = n5
       generalize gset g v = g' at HI HR1
       clear hB5 hT5 x0 x1 hlk hve
       go_wp2_with (fail)
       go_loopw [16] (fun i wr => ∃ u : Nat, i = .int .i64 (u : Int) ∧ u ≤ n ∧ Aside0 (WtI w.heap.size w wr n gA m gc t R cap rb R2 cap2 rb2 Gb q (relU M' g' v n W u) M' g')) (fun i _ => n - (intOf i).toNat)
       case atStart => exact ⟨0, rfl, Nat.zero_le _, HI⟩
       case round => as_aux_lemma =>
        clear HI
        obtain ⟨u, rfl, hu, HI⟩ := hrel
        have hc0 := (blk_cell HI.out.fr.k0 0).trans rfl
        by_cases hun : u < n
        ·go_wp2_with (fail)
         clear hc0
         go_loopw [17] (fun i wr => ∃ x : Nat, i = .int .i64 (x : Int) ∧ x ≤ n ∧ Aside0 (WtI w.heap.size w wr n gA m gc t R cap rb R2 cap2 rb2 Gb q (relV M' g' v u (relU M' g' v n W u) x) M' g')) (fun i _ => n - (intOf i).toNat)
         case atStart => exact ⟨0, rfl, Nat.zero_le _, HI⟩
         case round => as_aux_lemma =>
          clear HI
          obtain ⟨x, rfl, hx, HI⟩ := hrel
          have hc0 := (blk_cell HI.out.fr.k0 0).trans rfl
          by_cases hxn : x < n
          ·go_upto_region 30 with (fail)
           clear hc0
           have hb := relV_b (M := M') (g := g') (m := v) (u := u) (relU_b (M := M') (g := g') (m := v) (n := n) HBD.out u) x
           have HST := Aside0.mk (show relV M' g' v u (relU M' g' v n W u) (x + 1) = relV1 M' g' v u x (relV M' g' v u (relU M' g' v n W u) x) from rfl)
           have ba := hb u v
           have bb := hb v x
           have z3 := HI.out.ti.row u hun
           have z4 := HI.out.ti.cel u hun v hv
           have z5 := HI.out.ti.row v hv
           have z6 := HI.out.ti.cel v hv x hxn
           have z7 := HI.out.ti.cel u hun x hxn
           generalize relV M' g' v u (relU M' g' v n W u) x = X at HI HST ba bb z3 z4 z5 z6 z7
           obtain ⟨X', HX'⟩ : ∃ X', Aside0 (relV M' g' v u (relU M' g' v n W u) (x + 1) = X') := ⟨_, ⟨rfl⟩⟩
           rw [HX'.out] at HST
           have HNO : Aside0 (¬(u ≠ x ∧ g' u = false ∧ g' x = false ∧ M' v u = true ∧ M' v x = true ∧ X u v ≠ mInf ∧ X v x ≠ mInf) → X' = X) := ⟨fun hno => by rw [HST.out]; unfold relV1; rw [if_neg (fun h => hno h.1)]⟩
           have HLE : Aside0 (¬ X u v + X v x < X u x → X' = X) := ⟨fun hno => by rw [HST.out]; unfold relV1; rw [if_neg (fun h => hno h.2)]⟩
           have HYE : Aside0 ((u ≠ x ∧ g' u = false ∧ g' x = false ∧ M' v u = true ∧ M' v x = true ∧ X u v ≠ mInf ∧ X v x ≠ mInf) → X u v + X v x < X u x → X' = iset X u x (X u v + X v x)) := ⟨fun h1 h2 => by rw [HST.out]; unfold relV1; rw [if_pos ⟨h1, h2⟩]⟩
           generalize hXa : X u v = a at HNO HLE HYE ba z4
           generalize hXb : X v x = b at HNO HLE HYE bb z6
           generalize hXd : X u x = d at HLE HYE z7
           unfold mInf at ba bb
           clear hb HST hXa hXb hXd
           have x0 := (blk_cell HI.out.x 0).trans rfl
           have x1 := (blk_cell HI.out.x 1).trans rfl
           have y1 := HI.out.tb.gon u hun
           have y2 := HI.out.tb.gon x hxn
           have y3 := HI.out.tb.row v hv
           have y4 := HI.out.tb.cel v hv u hun
           have y5 := HI.out.tb.cel v hv x hxn
           have z2 := (blk_cell HI.out.fr.k2 0).trans rfl
           by_cases hux : u = x
           ·have HE2 := HNO.out (fun h => h.1 hux)
            rw [← HE2] at HI
            clear HE2 HNO HLE HYE z2 z3 z4 z5 z6 z7 x0 x1 y1 y2 y3 y4 y5
            go_wp2_with (fail)
            go_roundw
            case rel => exact ⟨x + 1, by go_num, by omega, by rw [HX'.out]; exact HI⟩
            case measure => simp [intOf]; omega
           cases h1 : g' u with
           | true =>
            rw [h1] at y1
            have HE2 := HNO.out (fun h => by rw [h1] at h; cases h.2.1)
            rw [← HE2] at HI
            clear HE2 HNO HLE HYE z2 z3 z4 z5 z6 z7 x0 y2 y3 y4 y5
            go_wp2_with (fail)
            go_roundw
            case rel => exact ⟨x + 1, by go_num, by omega, by rw [HX'.out]; exact HI⟩
            case measure => simp [intOf]; omega
           | false =>
            rw [h1] at y1
            cases h2 : g' x with
            | true =>
             rw [h2] at y2
             have HE2 := HNO.out (fun h => by rw [h2] at h; cases h.2.2.1)
             rw [← HE2] at HI
             clear HE2 HNO HLE HYE z2 z3 z4 z5 z6 z7 x0 y3 y4 y5
             go_wp2_with (fail)
             go_roundw
             case rel => exact ⟨x + 1, by go_num, by omega, by rw [HX'.out]; exact HI⟩
             case measure => simp [intOf]; omega
            | false =>
             rw [h2] at y2
             cases h3 : M' v u with
             | false =>
              rw [h3] at y4
              have HE2 := HNO.out (fun h => by rw [h3] at h; cases h.2.2.2.1)
              rw [← HE2] at HI
              clear HE2 HNO HLE HYE z2 z3 z4 z5 z6 z7 y5
              go_wp2_with (fail)
              go_roundw
              case rel => exact ⟨x + 1, by go_num, by omega, by rw [HX'.out]; exact HI⟩
              case measure => simp [intOf]; omega
             | true =>
              rw [h3] at y4
              cases h4 : M' v x with
              | false =>
               rw [h4] at y5
               have HE2 := HNO.out (fun h => by rw [h4] at h; cases h.2.2.2.2.1)
               rw [← HE2] at HI
               clear HE2 HNO HLE HYE z2 z3 z4 z5 z6 z7
               go_wp2_with (fail)
               go_roundw
               case rel => exact ⟨x + 1, by go_num, by omega, by rw [HX'.out]; exact HI⟩
               case measure => simp [intOf]; omega
              | true =>
               rw [h4] at y5
               by_cases h5 : a = 1152921504606846976
               ·have HE2 := HNO.out (fun h => h.2.2.2.2.2.1 h5)
                rw [← HE2] at HI
                clear HE2 HNO HLE HYE z5 z6 z7
                go_wp2_with (fail)
                go_roundw
                case rel => exact ⟨x + 1, by go_num, by omega, by rw [HX'.out]; exact HI⟩
                case measure => simp [intOf]; omega
               by_cases h6 : b = 1152921504606846976
               ·have HE2 := HNO.out (fun h => h.2.2.2.2.2.2 h6)
                rw [← HE2] at HI
                clear HE2 HNO HLE HYE z7
                go_wp2_with (fail)
                go_roundw
                case rel => exact ⟨x + 1, by go_num, by omega, by rw [HX'.out]; exact HI⟩
                case measure => simp [intOf]; omega
               have q1 : ((u : Int) == (x : Int)) = false := beq_eq_false_iff_ne.mpr (by omega)
               have q5 : (a == 1152921504606846976) = false := beq_eq_false_iff_ne.mpr h5
               have q6 : (b == 1152921504606846976) = false := beq_eq_false_iff_ne.mpr h6
               go_upto_region 31 with (fail)
               clear q1 q5 q6
               have ha7 : a < 1152921504606846976 := by omega
               have hb7 : b < 1152921504606846976 := by omega
               have hwr : IntKind.i64.wrap (a + b) = a + b := by rw [i64_w]; unfold wrap64; omega
               refine s_ (fun w' => w'.cell? ⟨w.heap.size + 1 + 1, 0, none⟩ = some (.slice (some ⟨R, 0, none⟩) n cap) ∧ w'.cell? ⟨R, u, none⟩ = some (.slice (some ⟨rb u, 0, none⟩) n n) ∧ w'.cell? ⟨rb u, v, none⟩ = some (.int .i64 a) ∧ w'.cell? ⟨R, v, none⟩ = some (.slice (some ⟨rb v, 0, none⟩) n n) ∧ w'.cell? ⟨rb v, x, none⟩ = some (.int .i64 b) ∧ w'.cell? ⟨rb u, x, none⟩ = some (.int .i64 d)) [] ⟨z2, z3, z4, z5, z6, z7⟩ (fun hHeld => ?_)
               have HI2 := Aside0.mk HI.out.drew
               clear HI z2 z3 z4 z5 z6 z7 x0 x1 y1 y2 y3 y4 y5 HNO
               generalize wr.drew = wd at HI2 hHeld ⊢
               by_cases h7 : a + b < d
               ·have HE2 := HYE.out ⟨hux, h1, h2, h3, h4, h5, h6⟩ h7
                refine p_ 0 181 ?_
                refine t6_ 1 182 hHeld ?_
                refine p_ 2 183 ?_
                refine p_ 3 184 ?_
                refine t6_ 4 185 hHeld ?_
                refine p_ 5 186 ?_
                refine p_ 6 187 ?_
                refine t6_ 7 188 hHeld ?_
                refine p_ 8 189 ?_
                refine t6_ 9 190 hHeld ?_
                refine p_ 10 191 ?_
                refine p_ 11 192 ?_
                refine t6_ 12 193 hHeld ?_
                refine p_ 13 194 ?_
                refine p_ 14 195 ?_
                refine t6_ 15 196 hHeld ?_
                refine p_ 16 197 (v := .int .i64 (a + b)) ?_ (hy := Or.inl ⟨by rfl, by intro w2; go_simp; try exact hwr⟩)
                refine p_ 17 198 ?_
                refine t6_ 18 199 hHeld ?_
                refine p_ 19 200 ?_
                refine p_ 20 201 ?_
                refine t6_ 21 202 hHeld ?_
                refine p_ 22 203 ?_
                refine p_ 23 204 ?_
                refine t6_ 24 205 hHeld ?_
                refine p_ 25 206 (v := .bool true) ?_ (hy := Or.inl ⟨by rfl, by intro w2; go_simp; try exact hwr⟩)
                refine d_ ?_
                obtain ⟨z2, z3, z4, z5, z6, _⟩ := hHeld
                go_upto_region 32 with (fail)
                refine s_ (fun w' => w'.cell? ⟨w.heap.size + 1 + 1, 0, none⟩ = some (.slice (some ⟨R, 0, none⟩) n cap) ∧ w'.cell? ⟨R, u, none⟩ = some (.slice (some ⟨rb u, 0, none⟩) n n) ∧ w'.cell? ⟨rb u, v, none⟩ = some (.int .i64 a) ∧ w'.cell? ⟨R, v, none⟩ = some (.slice (some ⟨rb v, 0, none⟩) n n) ∧ w'.cell? ⟨rb v, x, none⟩ = some (.int .i64 b)) [24] ⟨z2, z3, z4, z5, z6⟩ (fun hHeld => ?_)
                have HI3 := Aside0.mk HI2.out.drew
                clear HI2 z2 z3 z4 z5 z6
                generalize wd.drew = we at HI3 hHeld ⊢
                refine p_ 0 207 ?_
                refine t5_ 1 208 hHeld ?_
                refine p_ 2 209 ?_
                refine p_ 3 210 ?_
                refine t5_ 4 211 hHeld ?_
                refine p_ 5 212 ?_
                refine p_ 6 213 ?_
                refine t5_ 7 214 hHeld ?_
                refine p_ 8 215 ?_
                refine p_ 9 216 ?_
                refine t5_ 10 217 hHeld ?_
                refine p_ 11 218 ?_
                refine p_ 12 219 ?_
                refine t5_ 13 220 hHeld ?_
                refine p_ 14 221 ?_
                refine t5_ 15 222 hHeld ?_
                refine p_ 16 223 ?_
                refine p_ 17 224 ?_
                refine t5_ 18 225 hHeld ?_
                refine p_ 19 226 ?_
                refine p_ 20 227 ?_
                refine t5_ 21 228 hHeld ?_
                refine p_ 22 229 (v := .int .i64 (a + b)) ?_ (hy := Or.inl ⟨by rfl, by intro w2; go_simp; try exact hwr⟩)
                refine p_ 23 230 ?_
                have hcs_ : we.cell? ⟨rb u, x, none⟩ = _ := HI3.out.ti.cel u hun x hxn
                have hfs_ : we.frozen? ⟨rb u, x, none⟩ = false := HI3.out.ti.frz u hun x
                refine l_ 24 (fun K hK => ?_)
                refine skip_ (w1 := ?_) (by rfl) rfl ?_ ?_
                rotate_left; (·go_simp; rfl)
                refine hK.out _ _ ?_
                clear hK K
                refine d_ ?_
                clear hHeld hcs_ hfs_
                have HI4 := Aside0.mk (HI3.out.put hun hxn (a + b))
                rw [← HE2, ← HX'.out] at HI4
                generalize we.setCell ⟨rb u, x, none⟩ (.int .i64 (a + b)) = wf at HI4 ⊢
                go_wp2_with (fail)
                go_roundw
                case rel => exact ⟨x + 1, by go_num, by omega, HI4⟩
                case measure => simp [intOf]; omega
               ·have HE2 := HLE.out h7
                rw [← HE2, ← HX'.out] at HI2
                refine p_ 0 181 ?_
                refine t6_ 1 182 hHeld ?_
                refine p_ 2 183 ?_
                refine p_ 3 184 ?_
                refine t6_ 4 185 hHeld ?_
                refine p_ 5 186 ?_
                refine p_ 6 187 ?_
                refine t6_ 7 188 hHeld ?_
                refine p_ 8 189 ?_
                refine t6_ 9 190 hHeld ?_
                refine p_ 10 191 ?_
                refine p_ 11 192 ?_
                refine t6_ 12 193 hHeld ?_
                refine p_ 13 194 ?_
                refine p_ 14 195 ?_
                refine t6_ 15 196 hHeld ?_
                refine p_ 16 197 (v := .int .i64 (a + b)) ?_ (hy := Or.inl ⟨by rfl, by intro w2; go_simp; try exact hwr⟩)
                refine p_ 17 198 ?_
                refine t6_ 18 199 hHeld ?_
                refine p_ 19 200 ?_
                refine p_ 20 201 ?_
                refine t6_ 21 202 hHeld ?_
                refine p_ 22 203 ?_
                refine p_ 23 204 ?_
                refine t6_ 24 205 hHeld ?_
                refine p_ 25 206 (v := .bool false) ?_ (hy := Or.inl ⟨by rfl, by intro w2; go_simp; try exact hwr⟩)
                refine d_ ?_
                clear hHeld
                go_wp2_with (fail)
                go_roundw
                case rel => exact ⟨x + 1, by go_num, by omega, HI2⟩
                case measure => simp [intOf]; omega
          ·have hxn2 : x = n := by omega
           rw [hxn2] at HI
           go_wp2_with (fail)
           go_roundw
           case rel => exact ⟨u + 1, by go_num, by omega, HI⟩
           case measure => simp [intOf]; omega
        ·have hun2 : u = n := by omega
         rw [hun2] at HI
         have HI2 : Aside0 (WtI w.heap.size w wr n gA m gc t R cap rb R2 cap2 rb2 Gb q (relL n arcs L ws (k + 1)).1 (relL n arcs L ws (k + 1)).2.1 (relL n arcs L ws (k + 1)).2.2) := ⟨by rw [HR1.out]; exact HI.out⟩
         go_wp2_with (fail)
         go_roundw
         case rel => exact ⟨k + 1, by go_num, by omega, HI2⟩
         case measure => simp [intOf]; omega
      ·have hkn2 : k = n := by omega
       rw [hkn2] at HI
       have e0 := (blk_cell HI.out.fr.k2 0).trans rfl
       have e1 := (blk_cell HI.out.fr.k2 1).trans rfl
       have f0 := (blk_cell HI.out.fr.k1 0).trans rfl
       have f1 := (blk_cell HI.out.fr.k1 1).trans rfl
       have g0 : wr.frozen? ⟨w.heap.size + 1, 0, none⟩ = false := blk_frozen HI.out.fr.k1 0
       have g1 : wr.frozen? ⟨w.heap.size + 1, 1, none⟩ = false := blk_frozen HI.out.fr.k1 1
       go_wp2
       refine bodyPost_ret (results_cell_row rfl _ _ (w.heap.size + 1) 62 #[.slice (some ⟨R, 0, none⟩) n cap, .slice (some ⟨R2, 0, none⟩) n cap2] (0, 0) _ rfl (sb_put (sb_put HI.out.fr.k1 _) _) Try.underlying62 rfl (by kernel_rfl)) rfl ?_
       have hne : R2 ≠ w.heap.size + 1 := fun e => by
        have h1 := HI.out.tb.row 0 hp
        rw [e, f0] at h1
        cases h1
       have hlt := HI.out.hq.2.1
       exact ⟨below_put (below_put HI.out.b _ _ (Nat.le_succ _)) _ _ (Nat.le_succ _), _, rfl, ⟨w.heap.size + 3, t, R, cap, rb, t, R2, cap2, Gb, rb2, _, rfl, hcap, hcap2, (HI.out.ti.low (by omega) 0 _).low (by omega) 1 _, tb_low (tb_low HI.out.tb (by omega) hne 0 _) (by omega) hne 1 _⟩⟩
end Go.Proofs.Ytfnophaiamkmpaa.Print
