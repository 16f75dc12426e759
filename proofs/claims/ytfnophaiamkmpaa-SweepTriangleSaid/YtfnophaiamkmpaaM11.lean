/- Several texts of this claim in one: HKRead, HMMet, HXWords, F78. -/
import Derived.Test.YtfnophaiamkmpaaM6
import Derived.Test.YtfnophaiamkmpaaM9
import Derived.Test.YtfnophaiamkmpaaM0
import Derived.Test.YtfnophaiamkmpaaV0
import Derived.Test.YtfnophaiamkmpaaPrint0
import Derived.Test.YtfnophaiamkmpaaM1
namespace Go.Proofs.Ytfnophaiamkmpaa.Print
open Go.RowKit Go.Proofs.YtfnophaiamkmpaaW.PrintWords Go.Proofs.YtfnophaiamkmpaaW.PrintLast Go.Proofs.YtfnophaiamkmpaaW.PrintMore
set_option linter.unusedVariables false
set_option linter.unusedSimpArgs false
structure HierR (w : World) (p n : Nat) (arcs : List S58) (L R : List Int) (S : HSt) : Prop where
 out : ∃ gA gc oA oc rA rc eA ec mb uA uc dA dc, w.heap[p]? = some (.cells #[.int .i64 (n : Int), .slice gA arcs.length gc, .slice oA L.length oc, .slice rA R.length rc, .slice eA S.edges.length ec, .map (some mb), .slice uA S.ups.length uc, .slice dA S.downs.length dc] 108 (0, 0)) ∧
  (Kd.C k58 w gA arcs.length arcs ∧ arcs.length ≤ gc) ∧ (Kd.C (Kd.int .i64) w oA L.length L ∧ L.length ≤ oc) ∧ (Kd.C (Kd.int .i64) w rA R.length R ∧ R.length ≤ rc) ∧ (Kd.C k58 w eA S.edges.length S.edges ∧ S.edges.length ≤ ec) ∧ MapIs encP (Value.int .i64) w mb S.num ∧
  (Kd.C (Kd.slice 3 (Kd.int .i64)) w uA S.ups.length S.ups ∧ S.ups.length ≤ uc) ∧ (Kd.C (Kd.slice 3 (Kd.int .i64)) w dA S.downs.length S.downs ∧ S.downs.length ≤ dc)
theorem HierR.below {w w1 : World} {p n : Nat} {arcs : List S58} {L R : List Int} {S : HSt} (h : HierR w p n arcs L R S) (hb : Below w.heap.size w w1) : HierR w1 p n arcs L R S := by
 obtain ⟨gA, gc, oA, oc, rA, rc, eA, ec, mb, uA, uc, dA, dc, h1, h2, h3, h4, h5, h6, h7, h8⟩ := h.out
 exact ⟨gA, gc, oA, oc, rA, rc, eA, ec, mb, uA, uc, dA, dc, (hb.block p (hblk_lt h1)).trans h1, ⟨Kd.C_below h2.1 hb, h2.2⟩, ⟨Kd.C_below h3.1 hb, h3.2⟩, ⟨Kd.C_below h4.1 hb, h4.2⟩, ⟨Kd.C_below h5.1 hb, h5.2⟩, h6.below hb, ⟨Kd.C_below h7.1 hb, h7.2⟩, ⟨Kd.C_below h8.1 hb, h8.2⟩⟩
def hasV (n : Nat) (v : Int) : Bool := decide (0 ≤ v) && decide (v < (n : Int))
set_option maxHeartbeats 1600000 in
set_option maxRecDepth 100000 in
theorem Hier_has.calls {w : World} {p n : Nat} {arcs : List S58} {L R : List Int} {S : HSt} (h : HierR w p n arcs L R S) (v : Int) :
  Calls Try.prog 87 #[.pointer (some ⟨p, 0, none⟩), .int .i64 v] w fun e w' => e = .returned (.bool (hasV n v)) ∧ w' = w := by
 obtain ⟨gA, gc, oA, oc, rA, rc, eA, ec, mb, uA, uc, dA, dc, h1, _⟩ := h.out
 have hc0 := (blk_cell h1 0).trans rfl
 clear h h1
 go_enter Try.func87, Try.ntmps87
 by_cases h0 : 0 ≤ v
 ·by_cases h2 : v < (n : Int)
  ·go_wp2
   go_ret
   exact ⟨by simp [hasV, h0, h2], rfl⟩
  ·go_wp2
   go_ret
   exact ⟨by simp [hasV, h0, h2], rfl⟩
 ·go_wp2
  go_ret
  exact ⟨by unfold hasV; simp; omega, rfl⟩
def rankS (n : Nat) (R : List Int) (v : Int) : Int := if hasV n v = true then R.getD v.toNat 0 else -1
set_option maxHeartbeats 1600000 in
set_option maxRecDepth 100000 in
theorem Hier_Rank.calls {w : World} {p n : Nat} {arcs : List S58} {L R : List Int} {S : HSt} (h : HierR w p n arcs L R S) (hR : R.length = n) (v : Int) :
  Calls Try.prog 79 #[.pointer (some ⟨p, 0, none⟩), .int .i64 v] w fun e w' => e = .returned (.int .i64 (rankS n R v)) ∧ w' = w := by
 obtain ⟨gA, gc, oA, oc, rA, rc, eA, ec, mb, uA, uc, dA, dc, h1, _, _, h4, _⟩ := h.out
 have hc3 := (blk_cell h1 3).trans rfl
 have HH := Aside0.mk h
 have HC := Aside0.mk h4.1
 clear h h1
 go_enter Try.func79, Try.ntmps79
 go_wp2_with (fail)
 refine (Hier_has.calls HH.out v).mono ?_
 rintro e w' ⟨rfl, rfl⟩
 cases hv : hasV n v with
 | false =>
  go_wp2
  go_ret
  exact ⟨by simp [rankS, hv], rfl⟩
 | true =>
  have hv2 := hv
  simp only [hasV, Bool.and_eq_true, decide_eq_true_eq] at hv2
  obtain ⟨hv0, hv1⟩ := hv2
  obtain ⟨k, rfl⟩ := Int.eq_ofNat_of_zero_le hv0
  have hk : k < n := by omega
  rcases cells_of_C HC.out with ⟨h0, _⟩ | ⟨_, b, off, rfl, hce⟩
  ·omega
  ·have hcell := hce k (by omega)
   have HRK : Aside0 (rankS n R (k : Int) = R.getD k 0) := ⟨by simp [rankS, hv]⟩
   generalize R.getD k 0 = x at hcell HRK
   clear hce hv
   rw [hR] at hc3
   go_wp2
   go_ret
   exact ⟨by rw [HRK.out]; rfl, rfl⟩
structure HOk (n : Nat) (S : HSt) : Prop where
 lenu : S.ups.length = n
 lend : S.downs.length = n
 upin : ∀ v, v < n → ∀ e ∈ S.ups.getD v [], 0 ≤ e ∧ e < (S.edges.length : Int)
def parentS (n : Nat) (S : HSt) (v : Int) : Int := if hasV n v = true ∧ S.ups.getD v.toNat [] ≠ [] then (S.edges.getD ((S.ups.getD v.toNat []).getD 0 0).toNat z58).f1 else -1
set_option maxHeartbeats 3200000 in
set_option maxRecDepth 100000 in
theorem Hier_Parent.calls {w : World} {p n : Nat} {arcs : List S58} {L R : List Int} {S : HSt} (h : HierR w p n arcs L R S) (hok : HOk n S) (v : Int) :
  Calls Try.prog 81 #[.pointer (some ⟨p, 0, none⟩), .int .i64 v] w fun e w' => e = .returned (.int .i64 (parentS n S v)) ∧ Below w.heap.size w w' := by
 obtain ⟨gA, gc, oA, oc, rA, rc, eA, ec, mb, uA, uc, dA, dc, h1, _, _, _, h5, _, h7, _⟩ := h.out
 have hc4 := (blk_cell h1 4).trans rfl
 have hc6 := (blk_cell h1 6).trans rfl
 have HH := Aside0.mk h
 have HCE := Aside0.mk h5.1
 have HCU := Aside0.mk h7.1
 have HOK := Aside0.mk hok
 rw [hok.lenu] at hc6 HCU
 clear h h1 hok h5 h7
 go_enter Try.func81, Try.ntmps81
 go_wp2_with (fail)
 refine (Hier_has.calls HH.out v).mono ?_
 rintro e w' ⟨rfl, rfl⟩
 cases hv : hasV n v with
 | false =>
  have HP : Aside0 (parentS n S v = -1) := ⟨by unfold parentS; rw [if_neg (fun h => by rw [hv] at h; exact absurd h.1 (by decide))]⟩
  go_wp2
  go_ret
  exact ⟨by rw [HP.out]; rfl, Below.refl _ _⟩
 | true =>
  have hv2 := hv
  simp only [hasV, Bool.and_eq_true, decide_eq_true_eq] at hv2
  obtain ⟨hv0, hv1⟩ := hv2
  obtain ⟨k, rfl⟩ := Int.eq_ofNat_of_zero_le hv0
  have hk : k < n := by omega
  obtain ⟨au, cs, hA, _, ⟨Ai, xc, hcs, hci, hri⟩, hcell⟩ := Kd.C_get HCU.out [] (k : Int) (by omega) (by omega)
  have hcr := hcell 0 _ (by rw [hcs]; rfl)
  have hz : (Kd.slice 3 (Kd.int .i64)).sz = 1 := rfl
  rw [hz, Nat.mul_one, Nat.add_zero] at hcr
  simp only [Int.toNat_natCast] at hcr hri hci
  subst hA
  have HX : ∃ x, Aside0 (S.ups.getD k [] = x) := ⟨_, ⟨rfl⟩⟩
  obtain ⟨x, HX⟩ := HX
  rw [HX.out] at hcr hri hci
  clear hcs hcell hz
  rcases cells_of_C hri with ⟨_, rfl⟩ | ⟨hxl, br, orr, rfl, hxe⟩
  ·have HP : Aside0 (parentS n S (k : Int) = -1) := ⟨by unfold parentS; rw [Int.toNat_natCast, HX.out, if_neg (fun h => h.2 rfl)]⟩
   clear hri hv
   go_wp2
   go_ret
   exact ⟨by rw [HP.out]; rfl, Below.refl _ _⟩
  ·have hne : x ≠ [] := fun e => by rw [e] at hxl; simp at hxl
   have hcx := hxe 0 hxl
   have hin := HOK.out.upin k hk (x.getD 0 0) (by rw [HX.out]; cases x with | nil => exact absurd rfl hne | cons a r => simp)
   obtain ⟨e, he⟩ := Int.eq_ofNat_of_zero_le hin.1
   rw [he] at hcx hin
   have hel : e < S.edges.length := by omega
   obtain ⟨ae, hA2, hx0, hx1⟩ := at_T58 HCE.out (e : Int) (by omega) (by omega)
   have HP : Aside0 (parentS n S (k : Int) = (rd_T58 S.edges (e : Int)).f1) := ⟨by
    unfold parentS
    rw [Int.toNat_natCast, HX.out, if_pos ⟨hv, hne⟩, he]
    rfl⟩
   generalize (rd_T58 S.edges (e : Int)).f1 = f1 at hx1 HP
   subst hA2
   clear hri hxe hin he hv hx0
   simp only [Int.toNat_natCast] at hx1
   rw [Nat.add_zero] at hcx
   go_upto_region 3 with (fail)
   refine s_ (fun w' => w'.cell? ⟨p, 4, none⟩ = some (.slice (some ae) S.edges.length ec) ∧ w'.cell? ⟨p, 6, none⟩ = some (.slice (some au) n uc) ∧ w'.cell? (au.add k) = some (.slice (some ⟨br, orr, none⟩) x.length xc) ∧ w'.cell? ⟨br, orr, none⟩ = some (.int .i64 (e : Int)) ∧ w'.cell? ⟨(ae.add (e * 2)).block, (ae.add (e * 2)).off + 1, none⟩ = some (.int .i64 f1)) [] ⟨hc4, hc6, hcr, hcx, hx1⟩ (fun hHeld => ?_)
   refine p_ 0 20 ?_
   refine p_ 1 21 ?_
   refine p_ 2 22 ?_
   refine t5_ 3 23 hHeld ?_
   refine p_ 4 24 ?_
   refine p_ 5 25 ?_
   refine p_ 6 26 ?_
   refine t5_ 7 27 hHeld ?_
   refine p_ 8 28 ?_
   refine p_ 9 29 ?_
   refine t5_ 10 30 hHeld ?_
   refine p_ 11 31 ?_
   refine t5_ 12 32 hHeld ?_
   refine p_ 13 33 ?_
   refine p_ 14 34 ?_
   refine t5_ 15 35 hHeld ?_
   refine p_ 16 4 ?_
   refine d_ ?_
   clear hHeld
   go_wp2
   go_ret
   exact ⟨by rw [HP.out]; rfl, below_drew (Below.refl _ _)⟩
/-! ### Find -/
theorem hput {B : Nat} {w w1 : World} (h : Below B w w1) (a : Addr) (v : Value) (ha : B ≤ a.block) : Below B w (w1.setCell a v) :=
 ⟨h.os, h.tape, h.output, by rw [setCell_size]; exact h.size, fun k hk => (Below.heap_setCell w1 a v k (by omega)).trans (h.block k hk)⟩
theorem yields_lookup {κ ε : Type} [DecidableEq κ] {encK : κ → Value} {encE : ε → Value} {P : Program} {w : World} {b : Nat} {m : List (κ × ε)} {t kt et : TypeId} {o : Oper} {a : Act} (K : KeyKind P kt encK) (ht : P.underlying t = some (.map kt et)) (z : ε) (hz : ∀ w, (zeroValue et).run P w = .ok (encE z) w) (mo x : Operand) (h : MapIs encK encE w b m) (k : κ)
  (hop : o.op = Op.lookup t mo x true) (hm : a.eval mo = .map (some b)) (hx : a.eval x = encK k) {v : Value} (hv : Value.tuple #[encE ((mget m k).getD z), .bool (mget m k).isSome] = v) : (execOp a.eval o).run P w = .ok (.value v) w := by
 have hrun := run_lookup_map K ht h z hz k true
 simp only [if_true] at hrun
 rw [hv] at hrun
 unfold execOp
 simp only [hop, Sem.run_bind, Sem.run_pure, Result.andThen_ok, hm, hx, hrun]
theorem zeroI_ (w : World) : (zeroValue 3).run Try.prog w = .ok (Value.int .i64 0) w := by kernel_rfl
def findKeyS (R : List Int) (u v : Int) : Int × Int := if R.getD u.toNat 0 > R.getD v.toNat 0 then (v, u) else (u, v)
def findS (n : Nat) (R : List Int) (S : HSt) (u v : Int) : Int × Bool := if hasV n u = true ∧ hasV n v = true then ((mget S.num (findKeyS R u v)).getD 0, (mget S.num (findKeyS R u v)).isSome) else (0, false)
set_option maxHeartbeats 3200000 in
set_option maxRecDepth 100000 in
theorem Hier_Find.calls {w : World} {p n : Nat} {arcs : List S58} {L R : List Int} {S : HSt} (h : HierR w p n arcs L R S) (hR : R.length = n) (u v : Int) :
  Calls Try.prog 68 #[.pointer (some ⟨p, 0, none⟩), .int .i64 u, .int .i64 v] w fun e w' => e = .returned (.tuple #[.int .i64 (findS n R S u v).1, .bool (findS n R S u v).2]) ∧ Below w.heap.size w w' := by
 have HH := Aside0.mk h
 go_enter Try.func68, Try.ntmps68
 go_wp2_with (fail)
 refine (Hier_has.calls HH.out u).mono ?_
 rintro e w' ⟨rfl, rfl⟩
 cases hu : hasV n u with
 | false =>
  have HP : Aside0 (findS n R S u v = (0, false)) := ⟨by unfold findS; rw [if_neg (fun h => by rw [hu] at h; exact absurd h.1 (by decide))]⟩
  clear h
  go_wp2_with (fail)
  go_ret2
  exact ⟨by rw [HP.out]; rfl, Below.refl _ _⟩
 | true =>
  go_wp2_with (fail)
  refine (Hier_has.calls HH.out v).mono ?_
  rintro e w' ⟨rfl, rfl⟩
  cases hv : hasV n v with
  | false =>
   have HP : Aside0 (findS n R S u v = (0, false)) := ⟨by unfold findS; rw [if_neg (fun h => by rw [hv] at h; exact absurd h.2 (by decide))]⟩
   clear h
   go_wp2_with (fail)
   go_ret2
   exact ⟨by rw [HP.out]; rfl, Below.refl _ _⟩
  | true =>
   have hu2 := hu
   have hv2 := hv
   simp only [hasV, Bool.and_eq_true, decide_eq_true_eq] at hu2 hv2
   obtain ⟨a, rfl⟩ := Int.eq_ofNat_of_zero_le hu2.1
   obtain ⟨b, rfl⟩ := Int.eq_ofNat_of_zero_le hv2.1
   have ha : a < n := by omega
   have hb : b < n := by omega
   have HP : Aside0 (findS n R S a b = ((mget S.num (findKeyS R a b)).getD 0, (mget S.num (findKeyS R a b)).isSome)) := ⟨by unfold findS; rw [if_pos ⟨hu, hv⟩]⟩
   clear h hu hv hu2 hv2
   obtain ⟨gA, gc, oA, oc, rA, rc, eA, ec, mb, uA, uc, dA, dc, h1, _, _, h4, _, h6, _⟩ := HH.out.out
   rcases cells_of_C h4.1 with ⟨h0, _⟩ | ⟨_, br, orr, rfl, hce⟩
   ·omega
   have hca0 := hce a (by omega)
   have hcb0 := hce b (by omega)
   have HP2 : Aside0 (findKeyS R a b = if R.getD a 0 > R.getD b 0 then ((b : Int), (a : Int)) else ((a : Int), (b : Int))) := ⟨rfl⟩
   generalize R.getD a 0 = xa at hca0 HP2
   generalize R.getD b 0 = xb at hcb0 HP2
   have hc30 := (blk_cell h1 3).trans rfl
   have hc50 := (blk_cell h1 5).trans rfl
   rw [hR] at hc30
   go_upto_region 4 with (fail)
   have hbel : Below w'.heap.size w' (w'.alloc (Obj.cells #[Value.int IntKind.i64 ↑a, Value.int IntKind.i64 ↑b] 130)) := (Below.refl _ _).alloc (Nat.le_refl _) _
   have HBk := Aside0.mk hbel
   have HMk := Aside0.mk (h6.below hbel)
   have hca := pw_cell_below hbel hca0
   have hcb := pw_cell_below hbel hcb0
   have hc3 := pw_cell_below hbel hc30
   have HC5 := Aside0.mk (pw_cell_below hbel hc50)
   have HKk := Aside0.mk (heap_alloc_new w' (Obj.cells #[Value.int IntKind.i64 ↑a, Value.int IntKind.i64 ↑b] 130))
   have HNM : Aside0 (mb < w'.heap.size ∧ p < w'.heap.size) := ⟨⟨h6.lt, hblk_lt h1⟩⟩
   generalize w'.alloc (Obj.cells #[Value.int IntKind.i64 ↑a, Value.int IntKind.i64 ↑b] 130) = wk at HBk HMk hca hcb hc3 HC5 HKk ⊢
   generalize hkb : w'.heap.size = kb at HKk HNM ⊢
   clear hbel hca0 hcb0 hc30 hc50 h1 h4 h6 hce
   refine s_ (fun w' => w'.cell? ⟨p, 3, none⟩ = some (.slice (some ⟨br, orr, none⟩) n rc) ∧ w'.cell? ⟨br, orr + a, none⟩ = some (.int .i64 xa) ∧ w'.cell? ⟨br, orr + b, none⟩ = some (.int .i64 xb)) [] ⟨hc3, hca, hcb⟩ (fun hHeld => ?_)
   refine p_ 0 24 ?_
   refine p_ 1 25 ?_
   refine p_ 2 26 ?_
   refine t3_ 3 27 hHeld ?_
   refine p_ 4 28 ?_
   refine p_ 5 29 ?_
   refine t3_ 6 30 hHeld ?_
   refine p_ 7 31 ?_
   refine p_ 8 32 ?_
   refine p_ 9 33 ?_
   refine t3_ 10 34 hHeld ?_
   refine p_ 11 35 ?_
   refine p_ 12 36 ?_
   refine t3_ 13 37 hHeld ?_
   refine p_ 14 38 ?_
   refine d_ ?_
   clear hHeld
   have HKd : Aside0 (wk.drew.heap[kb]? = some (.cells #[Value.int IntKind.i64 ↑a, Value.int IntKind.i64 ↑b] 130 (0, 0))) := ⟨HKk.out⟩
   have HMd : Aside0 (MapIs encP (Value.int .i64) wk.drew mb S.num) := ⟨HMk.out⟩
   have HBd := Aside0.mk (below_drew HBk.out)
   have HC5d : Aside0 (wk.drew.cell? ⟨p, 5, none⟩ = some (.map (some mb))) := ⟨HC5.out⟩
   generalize wk.drew = wd at HKd HMd HBd HC5d ⊢
   clear hca hcb hc3
   by_cases hgt : xa > xb
   ·rw [if_pos hgt] at HP2
    have hk0 := (blk_cell HKd.out 0).trans rfl
    have hk1 := (blk_cell HKd.out 1).trans rfl
    have hf0 : wd.frozen? ⟨kb, 0, none⟩ = false := blk_frozen HKd.out 0
    have hf1 : wd.frozen? ⟨kb, 1, none⟩ = false := blk_frozen HKd.out 1
    go_upto_region 6 with (fail)
    have HKs : Aside0 (((wd.setCell ⟨kb, 0, none⟩ (.int .i64 (b : Int))).setCell ⟨kb, 1, none⟩ (.int .i64 (a : Int))).heap[kb]? = some (.cells #[Value.int IntKind.i64 ↑b, Value.int IntKind.i64 ↑a] 130 (0, 0))) := ⟨by simp [World.setCell, Array.getElem?_modify, HKd.out]⟩
    have HMs : Aside0 (MapIs encP (Value.int .i64) ((wd.setCell ⟨kb, 0, none⟩ (.int .i64 (b : Int))).setCell ⟨kb, 1, none⟩ (.int .i64 (a : Int))) mb S.num) := ⟨(HMd.out.setCell _ _).setCell _ _⟩
    have HCs : Aside0 (((wd.setCell ⟨kb, 0, none⟩ (.int .i64 (b : Int))).setCell ⟨kb, 1, none⟩ (.int .i64 (a : Int))).cell? ⟨p, 5, none⟩ = some (.map (some mb))) := ⟨by
     have hpk : kb ≠ p := by have := HNM.out.2; omega
     refine (World.cell?_setCell_other (h := fun e => hpk (by injection e)) ..).trans ((World.cell?_setCell_other (h := fun e => hpk (by injection e)) ..).trans HC5d.out)⟩
    have HBs : Aside0 (Below kb w' ((wd.setCell ⟨kb, 0, none⟩ (.int .i64 (b : Int))).setCell ⟨kb, 1, none⟩ (.int .i64 (a : Int)))) := ⟨by
     have hb0 := HBd.out
     rw [hkb] at hb0
     exact hput (hput hb0 _ _ (Nat.le_refl _)) _ _ (Nat.le_refl _)⟩
    generalize (wd.setCell ⟨kb, 0, none⟩ (.int .i64 (b : Int))).setCell ⟨kb, 1, none⟩ (.int .i64 (a : Int)) = ws at HKs HMs HCs HBs ⊢
    clear hk0 hk1 hf0 hf1
    have hk0 := (blk_cell HKs.out 0).trans rfl
    have hk1 := (blk_cell HKs.out 1).trans rfl
    have hc5 := HCs.out
    have hmm := HMs.out
    refine s_ (fun w' => w'.cell? ⟨p, 5, none⟩ = some (.map (some mb)) ∧ w'.cell? ⟨kb, 0, none⟩ = some (.int .i64 (b : Int)) ∧ w'.cell? ⟨kb, 1, none⟩ = some (.int .i64 (a : Int)) ∧ MapIs encP (Value.int .i64) w' mb S.num) [] ⟨hc5, hk0, hk1, hmm⟩ (fun hHeld => ?_)
    refine p_ 0 43 ?_
    refine p_ 1 44 ?_
    refine p_ 2 45 ?_
    refine t4_ 3 46 hHeld ?_
    refine t4_ 4 47 hHeld ?_
    refine take_ (i := 5) (N := some 48) (v := ?_) (a' := ?_) (bits 11 63) rfl rfl (by kernel_rfl) (fun _ _ _ h => h) (Or.inl ⟨by rfl, ?_⟩) hHeld ?_ ?_; rotate_left; (·rintro w' ⟨s0, s1, s2, s3⟩; refine yields_lookup pKey Try.underlying98 0 zeroI_ (.tmp 46) (.tmp 47) s3 ((b : Int), (a : Int)) ?_ ?_ ?_ ?_ <;> rfl); rotate_left; (·simp only [putW]; rfl)
    refine p_ 6 42 ?_
    refine p_ 7 49 ?_
    refine p_ 8 50 ?_
    refine p_ 9 9 ?_
    refine p_ 10 10 ?_
    refine d_ ?_
    clear hHeld
    go_wp2
    go_ret2
    exact ⟨by rw [HP.out, HP2.out]; rfl, by rw [hkb]; exact below_drew HBs.out⟩
   ·rw [if_neg hgt] at HP2
    go_upto_region 6 with (fail)
    have hk0 := (blk_cell HKd.out 0).trans rfl
    have hk1 := (blk_cell HKd.out 1).trans rfl
    have hc5 := HC5d.out
    have hmm := HMd.out
    refine s_ (fun w' => w'.cell? ⟨p, 5, none⟩ = some (.map (some mb)) ∧ w'.cell? ⟨kb, 0, none⟩ = some (.int .i64 (a : Int)) ∧ w'.cell? ⟨kb, 1, none⟩ = some (.int .i64 (b : Int)) ∧ MapIs encP (Value.int .i64) w' mb S.num) [] ⟨hc5, hk0, hk1, hmm⟩ (fun hHeld => ?_)
    refine p_ 0 43 ?_
    refine p_ 1 44 ?_
    refine p_ 2 45 ?_
    refine t4_ 3 46 hHeld ?_
    refine t4_ 4 47 hHeld ?_
    refine take_ (i := 5) (N := some 48) (v := ?_) (a' := ?_) (bits 11 63) rfl rfl (by kernel_rfl) (fun _ _ _ h => h) (Or.inl ⟨by rfl, ?_⟩) hHeld ?_ ?_; rotate_left; (·rintro w' ⟨s0, s1, s2, s3⟩; refine yields_lookup pKey Try.underlying98 0 zeroI_ (.tmp 46) (.tmp 47) s3 ((a : Int), (b : Int)) ?_ ?_ ?_ ?_ <;> rfl); rotate_left; (·simp only [putW]; rfl)
    refine p_ 6 42 ?_
    refine p_ 7 49 ?_
    refine p_ 8 50 ?_
    refine p_ 9 9 ?_
    refine p_ 10 10 ?_
    refine d_ ?_
    clear hHeld
    go_wp2
    go_ret2
    exact ⟨by rw [HP.out, HP2.out]; rfl, by rw [← hkb]; exact below_drew HBd.out⟩
set_option maxHeartbeats 1600000 in
set_option maxRecDepth 100000 in
theorem Hier_Edges.calls {w : World} {p n : Nat} {arcs : List S58} {L R : List Int} {S : HSt} (h : HierR w p n arcs L R S) (hs : S.edges.length ≤ 1000000000) :
  Calls Try.prog 28 #[.pointer (some ⟨p, 0, none⟩)] w fun e w' => ∃ v : Value, e = .returned v ∧ Kd.R k58 58 w' w.heap.size (fun _ => True) v S.edges ∧ Below w.heap.size w w' := by
 obtain ⟨gA, gc, oA, oc, rA, rc, eA, ec, mb, uA, uc, dA, dc, h1, h2, h3, h4, h5, _⟩ := h.out
 have hc4 := (blk_cell h1 4).trans rfl
 have HE := Aside0.mk h5.1
 clear h h1 h2 h3 h4 h5
 go_enter Try.func28, Try.ntmps28
 go_wp2_with (fail)
 refine (clone_arcs _ _ _ _ HE.out hs).mono ?_
 rintro e w' ⟨v, rfl, hr, hb⟩
 have HR := Aside0.mk hr
 have HB := Aside0.mk hb
 clear hr hb
 go_wp2
 go_ret
 exact ⟨_, rfl, HR.out, HB.out⟩
set_option maxHeartbeats 1600000 in
set_option maxRecDepth 100000 in
theorem Hier_Order.calls {w : World} {p n : Nat} {arcs : List S58} {L R : List Int} {S : HSt} (h : HierR w p n arcs L R S) (hs : L.length ≤ 1000000000) :
  Calls Try.prog 89 #[.pointer (some ⟨p, 0, none⟩)] w fun e w' => ∃ v : Value, e = .returned v ∧ Kd.R (Kd.int .i64) 3 w' w.heap.size (fun _ => True) v L ∧ Below w.heap.size w w' := by
 obtain ⟨gA, gc, oA, oc, rA, rc, eA, ec, mb, uA, uc, dA, dc, h1, h2, h3, h4, h5, _⟩ := h.out
 have hc2 := (blk_cell h1 2).trans rfl
 have HE := Aside0.mk h3.1
 clear h h1 h2 h3 h4 h5
 go_enter Try.func89, Try.ntmps89
 go_wp2_with (fail)
 refine (clone_ints _ _ _ _ HE.out hs).mono ?_
 rintro e w' ⟨v, rfl, hr, hb⟩
 have HR := Aside0.mk hr
 have HB := Aside0.mk hb
 clear hr hb
 go_wp2
 go_ret
 exact ⟨_, rfl, HR.out, HB.out⟩
def upS (n : Nat) (S : HSt) (v : Int) : List Int := if hasV n v = true then S.ups.getD v.toNat [] else []
set_option maxHeartbeats 1600000 in
set_option maxRecDepth 100000 in
theorem Hier_Up.calls {w : World} {p n : Nat} {arcs : List S58} {L R : List Int} {S : HSt} (h : HierR w p n arcs L R S) (hok : HOk n S) (v : Int) (hs : (S.ups.getD v.toNat []).length ≤ 1000000000) :
  Calls Try.prog 70 #[.pointer (some ⟨p, 0, none⟩), .int .i64 v] w fun e w' => ∃ u : Value, e = .returned u ∧ Kd.R (Kd.int .i64) 3 w' w.heap.size (fun _ => True) u (upS n S v) ∧ Below w.heap.size w w' := by
 obtain ⟨gA, gc, oA, oc, rA, rc, eA, ec, mb, uA, uc, dA, dc, h1, _, _, _, h5, _, h7, _⟩ := h.out
 have hc6 := (blk_cell h1 6).trans rfl
 have HH := Aside0.mk h
 have HCU := Aside0.mk h7.1
 rw [hok.lenu] at hc6 HCU
 clear h h1 hok h5 h7
 go_enter Try.func70, Try.ntmps70
 go_wp2_with (fail)
 refine (Hier_has.calls HH.out v).mono ?_
 rintro e w' ⟨rfl, rfl⟩
 cases hv : hasV n v with
 | false =>
  have HP : Aside0 (upS n S v = []) := ⟨by unfold upS; rw [hv]; rfl⟩
  go_wp2
  go_ret
  exact ⟨_, rfl, by rw [HP.out]; exact Kd.R_nil _ _ _ _ _, Below.refl _ _⟩
 | true =>
  have HP : Aside0 (upS n S v = S.ups.getD v.toNat []) := ⟨by unfold upS; rw [hv]; rfl⟩
  have hv2 := hv
  simp only [hasV, Bool.and_eq_true, decide_eq_true_eq] at hv2
  obtain ⟨hv0, hv1⟩ := hv2
  obtain ⟨k, rfl⟩ := Int.eq_ofNat_of_zero_le hv0
  have hk : k < n := by omega
  obtain ⟨au, cs, hA, _, ⟨Ai, xc, hcs, hci, hri⟩, hcell⟩ := Kd.C_get HCU.out [] (k : Int) (by omega) (by omega)
  have hcr := hcell 0 _ (by rw [hcs]; rfl)
  have hz : (Kd.slice 3 (Kd.int .i64)).sz = 1 := rfl
  rw [hz, Nat.mul_one, Nat.add_zero] at hcr
  simp only [Int.toNat_natCast] at hcr hri hci hs HP
  subst hA
  have HX : ∃ x, Aside0 (S.ups.getD k [] = x) := ⟨_, ⟨rfl⟩⟩
  obtain ⟨x, HX⟩ := HX
  rw [HX.out] at hcr hri hci hs HP
  have HRI := Aside0.mk hri
  clear hcs hcell hz hri hv
  go_wp2_with (fail)
  refine (clone_ints _ _ _ _ HRI.out hs).mono ?_
  rintro e w' ⟨v, rfl, hr, hb⟩
  have HR := Aside0.mk hr
  have HB := Aside0.mk hb
  clear hr hb
  go_wp2
  go_ret
  exact ⟨_, rfl, by rw [HP.out]; exact HR.out, HB.out⟩
structure MetR (w : World) (q p : Nat) (ws : List Int) (ar : List (List Int)) (up dn : List Int) : Prop where
 out : ∃ wA wc aA ac uA uc dA dc, w.heap[q]? = some (.cells #[.pointer (some ⟨p, 0, none⟩), .slice wA ws.length wc, .slice aA ar.length ac, .slice uA up.length uc, .slice dA dn.length dc] 117 (0, 0)) ∧
  (Kd.C (Kd.int .i64) w wA ws.length ws ∧ ws.length ≤ wc) ∧ (Kd.C (Kd.slice 3 (Kd.int .i64)) w aA ar.length ar ∧ ar.length ≤ ac) ∧ (Kd.C (Kd.int .i64) w uA up.length up ∧ up.length ≤ uc) ∧ (Kd.C (Kd.int .i64) w dA dn.length dn ∧ dn.length ≤ dc)
theorem MetR.below {w w1 : World} {q p : Nat} {ws : List Int} {ar : List (List Int)} {up dn : List Int} (h : MetR w q p ws ar up dn) (hb : Below w.heap.size w w1) : MetR w1 q p ws ar up dn := by
 obtain ⟨wA, wc, aA, ac, uA, uc, dA, dc, h1, h2, h3, h4, h5⟩ := h.out
 exact ⟨wA, wc, aA, ac, uA, uc, dA, dc, (hb.block q (hblk_lt h1)).trans h1, ⟨Kd.C_below h2.1 hb, h2.2⟩, ⟨Kd.C_below h3.1 hb, h3.2⟩, ⟨Kd.C_below h4.1 hb, h4.2⟩, ⟨Kd.C_below h5.1 hb, h5.2⟩⟩
def mInf : Int := 1152921504606846976
def over (a b : Int) : Int := if a = mInf ∨ b = mInf then mInf else a + b
set_option maxHeartbeats 1600000 in
set_option maxRecDepth 100000 in
theorem weights_over.calls (a b : Int) (ha : 0 ≤ a ∧ a ≤ mInf) (hb : 0 ≤ b ∧ b ≤ mInf) (w : World) :
  Calls Try.prog 88 #[.int .i64 a, .int .i64 b] w fun e w' => e = .returned (.int .i64 (over a b)) ∧ w' = w := by
 unfold mInf at ha hb
 by_cases h1 : a = 1152921504606846976
 ·have HO : Aside0 (over a b = 1152921504606846976) := ⟨by unfold over mInf; rw [if_pos (.inl h1)]⟩
  go_enter Try.func88, Try.ntmps88
  go_wp2
  go_ret
  exact ⟨by rw [HO.out]; rfl, rfl⟩
 ·by_cases h2 : b = 1152921504606846976
  ·have HO : Aside0 (over a b = 1152921504606846976) := ⟨by unfold over mInf; rw [if_pos (.inr h2)]⟩
   go_enter Try.func88, Try.ntmps88
   go_wp2
   go_ret
   exact ⟨by rw [HO.out]; rfl, rfl⟩
  ·have HO : Aside0 (over a b = a + b) := ⟨by unfold over mInf; rw [if_neg (by omega)]⟩
   have e1 : ¬ ((a == 1152921504606846976) = true ∨ (b == 1152921504606846976) = true) := by simp [h1, h2]
   go_enter Try.func88, Try.ntmps88
   go_wp2
   go_ret
   exact ⟨by rw [HO.out]; rfl, rfl⟩
set_option maxHeartbeats 1600000 in
set_option maxRecDepth 100000 in
theorem Metric_Hier.calls {w : World} {q p : Nat} {ws : List Int} {ar : List (List Int)} {up dn : List Int} (h : MetR w q p ws ar up dn) :
  Calls Try.prog 71 #[.pointer (some ⟨q, 0, none⟩)] w fun e w' => e = .returned (.pointer (some ⟨p, 0, none⟩)) ∧ w' = w := by
 obtain ⟨wA, wc, aA, ac, uA, uc, dA, dc, h1, _⟩ := h.out
 clear h
 have hc0 := (blk_cell h1 0).trans rfl
 go_enter Try.func71, Try.ntmps71
 go_wp2
 go_ret
 exact ⟨rfl, rfl⟩
def sideS (l : List Int) (e : Int) : Int := if 0 ≤ e ∧ e < (l.length : Int) then l.getD e.toNat 0 else mInf
set_option maxHeartbeats 1600000 in
set_option maxRecDepth 100000 in
theorem Metric_Up.calls {w : World} {q p : Nat} {ws : List Int} {ar : List (List Int)} {up dn : List Int} (h : MetR w q p ws ar up dn) (e : Int) :
  Calls Try.prog 60 #[.pointer (some ⟨q, 0, none⟩), .int .i64 e] w fun x w' => x = .returned (.int .i64 (sideS up e)) ∧ w' = w := by
 obtain ⟨wA, wc, aA, ac, uA, uc, dA, dc, h1, h2, h3, h4, h5⟩ := h.out
 have hcc := (blk_cell h1 3).trans rfl
 have HC := Aside0.mk h4.1
 clear h h1 h2 h3 h4 h5
 by_cases h0 : 0 ≤ e
 ·by_cases hl : e < (up.length : Int)
  ·have HS := Aside0.mk (show sideS up e = up.getD e.toNat 0 by unfold sideS; rw [if_pos ⟨h0, hl⟩])
   rcases cells_of_C HC.out with ⟨hz, _⟩ | ⟨_, b, off, hA, hce⟩
   ·omega
   subst hA
   obtain ⟨k, rfl⟩ := Int.eq_ofNat_of_zero_le h0
   have hcx := hce k (by omega)
   rw [Int.toNat_natCast] at HS
   clear hce HC
   generalize up.getD k 0 = x at hcx HS
   go_enter Try.func60, Try.ntmps60
   go_wp2
   go_ret
   exact ⟨by rw [HS.out]; rfl, rfl⟩
  ·have HS := Aside0.mk (show sideS up e = 1152921504606846976 by unfold sideS mInf; rw [if_neg (fun x => hl x.2)])
   go_enter Try.func60, Try.ntmps60
   go_wp2
   go_ret
   exact ⟨by rw [HS.out]; rfl, rfl⟩
 ·have HS := Aside0.mk (show sideS up e = 1152921504606846976 by unfold sideS mInf; rw [if_neg (fun x => h0 x.1)])
  go_enter Try.func60, Try.ntmps60
  go_wp2
  go_ret
  exact ⟨by rw [HS.out]; rfl, rfl⟩
set_option maxHeartbeats 1600000 in
set_option maxRecDepth 100000 in
theorem Metric_Down.calls {w : World} {q p : Nat} {ws : List Int} {ar : List (List Int)} {up dn : List Int} (h : MetR w q p ws ar up dn) (e : Int) :
  Calls Try.prog 61 #[.pointer (some ⟨q, 0, none⟩), .int .i64 e] w fun x w' => x = .returned (.int .i64 (sideS dn e)) ∧ w' = w := by
 obtain ⟨wA, wc, aA, ac, uA, uc, dA, dc, h1, h2, h3, h4, h5⟩ := h.out
 have hcc := (blk_cell h1 4).trans rfl
 have HC := Aside0.mk h5.1
 clear h h1 h2 h3 h4 h5
 by_cases h0 : 0 ≤ e
 ·by_cases hl : e < (dn.length : Int)
  ·have HS := Aside0.mk (show sideS dn e = dn.getD e.toNat 0 by unfold sideS; rw [if_pos ⟨h0, hl⟩])
   rcases cells_of_C HC.out with ⟨hz, _⟩ | ⟨_, b, off, hA, hce⟩
   ·omega
   subst hA
   obtain ⟨k, rfl⟩ := Int.eq_ofNat_of_zero_le h0
   have hcx := hce k (by omega)
   rw [Int.toNat_natCast] at HS
   clear hce HC
   generalize dn.getD k 0 = x at hcx HS
   go_enter Try.func61, Try.ntmps61
   go_wp2
   go_ret
   exact ⟨by rw [HS.out]; rfl, rfl⟩
  ·have HS := Aside0.mk (show sideS dn e = 1152921504606846976 by unfold sideS mInf; rw [if_neg (fun x => hl x.2)])
   go_enter Try.func61, Try.ntmps61
   go_wp2
   go_ret
   exact ⟨by rw [HS.out]; rfl, rfl⟩
 ·have HS := Aside0.mk (show sideS dn e = 1152921504606846976 by unfold sideS mInf; rw [if_neg (fun x => h0 x.1)])
  go_enter Try.func61, Try.ntmps61
  go_wp2
  go_ret
  exact ⟨by rw [HS.out]; rfl, rfl⟩
def copyL {α : Type} (xs ys : List α) : List α := ys.take xs.length ++ xs.drop ys.length
theorem copyL_length {α : Type} (xs ys : List α) : (copyL xs ys).length = xs.length := by unfold copyL; simp; omega
def copyN {α : Type} (xs ys : List α) : Int := ((Nat.min ys.length xs.length : Nat) : Int)
theorem setRow_grown (W : World) (g : Nat) (cs : Array Value) : W.grownBy (W.setRow g cs) (some g) :=
 ⟨rfl, rfl, rfl, by simp [World.setRow], fun k hk hne => by
  have : g ≠ k := fun e => hne (by rw [e])
  simp [World.setRow, Array.getElem?_modify, this]⟩
theorem reps_drop_take {α : Type} {R : α → List Value → Prop} {sz : Nat} {ps : List α} {cs : List Value} (h : Reps R sz ps cs) (k : Nat) (hk : k ≤ ps.length) : Reps R sz (ps.take k) (cs.take (k * sz)) ∧ Reps R sz (ps.drop k) (cs.drop (k * sz)) := by
 have hle : k * sz ≤ cs.length := by rw [h.1]; exact Nat.mul_le_mul_right _ hk
 refine ⟨⟨by rw [List.length_take, List.length_take]; rw [Nat.min_eq_left hle, Nat.min_eq_left hk], fun j p hj => ?_⟩, ⟨by rw [List.length_drop, List.length_drop, h.1, Nat.sub_mul], fun j p hj => ?_⟩⟩
 ·rw [List.getElem?_take] at hj
  split at hj
  ·rename_i hjk
   have h2 := h.2 j p hj
   have h3 : j * sz + sz ≤ k * sz := by rw [← Nat.succ_mul]; exact Nat.mul_le_mul_right _ hjk
   rw [List.drop_take, List.take_take, Nat.min_eq_left (by omega)]
   exact h2
  ·cases hj
 ·rw [List.getElem?_drop] at hj
  have h2 := h.2 (k + j) p hj
  rw [List.drop_drop, ← Nat.add_mul]
  exact h2
theorem reps_append {α : Type} {R : α → List Value → Prop} {sz : Nat} {ps qs : List α} {cs ds : List Value} (h : Reps R sz ps cs) (h' : Reps R sz qs ds) : Reps R sz (ps ++ qs) (cs ++ ds) := by
 refine ⟨by rw [List.length_append, List.length_append, h.1, h'.1, Nat.add_mul], fun j p hj => ?_⟩
 rcases Nat.lt_or_ge j ps.length with hlt | hge
 ·rw [List.getElem?_append_left hlt] at hj
  have h1 : j * sz + sz ≤ cs.length := by rw [h.1, ← Nat.succ_mul]; exact Nat.mul_le_mul_right _ hlt
  rw [List.drop_append_of_le_length (by omega), List.take_append_of_le_length (by rw [List.length_drop]; omega)]
  exact h.2 j p hj
 ·rw [List.getElem?_append_right hge] at hj
  have h1 : cs.length ≤ j * sz := by rw [h.1]; exact Nat.mul_le_mul_right _ hge
  rw [List.drop_append, List.drop_of_length_le h1, List.nil_append]
  have := h'.2 _ p hj
  rw [h.1, ← Nat.sub_mul]
  exact this
section
variable {α : Type} {P : Program} {ops : Array Oper} {rest : List Oper} {o : Oper} {a : Act} {Q : Exit → Act → World → Prop}
theorem Kd.R_copy (d : Kd α) (hflat : ∀ {w b ok w' b' ok' x cs}, d.M w b ok x cs → d.M w' b' ok' x cs) (hKM : ∀ {w x cs w' b' ok'}, d.K w x cs → d.M w' b' ok' x cs) {W : World} (base : Nat) (hgd : o.guard = none) (s x : Operand) (t t' e : TypeId) (z : Value) (bytes : Nat)
  (ho : o.op = .call { callee := .builtin .copy, args := #[s, x], argTypes := #[t, t'] })
  (ht : P.underlying t = some (.slice e)) (hinfo : (P.info? e).map (fun i => (i.zero, i.size, i.bytes)) = some (some z, d.sz, bytes)) (hs0 : 0 < d.sz)
  (v : Value) (xs ys : List α) (A : Option Addr) (m c : Nat) (ok : Nat → Prop) (hs : a.eval s = v) (hx : a.eval x = .slice A m c)
  (HO : d.R e W base ok v xs) (HR : d.C W A m ys) {w0 : World} (HB : Below base w0 W) (hbase : base ≤ W.heap.size)
  (h : ∀ w1, d.R e w1 base ok v (copyL xs ys) → Below base w0 w1 → W.grownBy w1 v.ownBlock → wpList P ops Q rest (a.put o.dst (.int .i64 (copyN xs ys))) w1) :
  wpList P ops Q (o :: rest) a W := by
 obtain ⟨i0, hi, hzz⟩ := Option.map_eq_some_iff.1 hinfo
 simp only [Prod.mk.injEq] at hzz
 obtain ⟨hz0, hz1, hz2⟩ := hzz
 have hm : ys.length = m := HR.1
 obtain ⟨hok, inner, hown, hr⟩ := HO
 have hrun : ∃ w1, (Builtin.copy_ #[t, t'] o.type #[v, .slice A m c]).run P W = .ok (.int .i64 (copyN xs ys)) w1 ∧ d.R e w1 base ok v (copyL xs ys) ∧ W.grownBy w1 v.ownBlock := by
  have hv : ∃ B c', v = .slice B xs.length c' := by
   rcases hown.2 with ⟨rfl, h0⟩ | ⟨g, cap, cur, rfl, _⟩
   ·rw [h0]; exact ⟨_, _, rfl⟩
   ·exact ⟨_, _, rfl⟩
  obtain ⟨B, c', hv⟩ := hv
  rcases Nat.eq_zero_or_pos (Nat.min m xs.length) with h0 | h0
  ·have hcp : copyL xs ys = xs := by
    unfold copyL
    rcases Nat.eq_zero_or_pos m with hm0 | hm0
    ·obtain rfl : ys = [] := List.eq_nil_of_length_eq_zero (by omega)
     simp
    ·have : xs.length = 0 := by simp only [Nat.min_def] at h0; split at h0 <;> omega
     obtain rfl : xs = [] := List.eq_nil_of_length_eq_zero this
     simp
   have hN : copyN xs ys = 0 := by unfold copyN; rw [hm, h0]; rfl
   refine ⟨W, ?_, by rw [hcp]; exact ⟨hok, inner, hown, hr⟩, World.grownBy.refl W _⟩
   rw [hN, hv]
   have hl : ∀ y : Addr, (loadCells y 0).run P W = .ok #[] W := fun y => by simpa using run_loadCells_list (P := P) W y [] (by simp)
   have h0' : min m xs.length = 0 := h0
   cases B <;> cases A <;> simp [Builtin.copy_, run_underlying ht, Builtin.lenOf, Builtin.firstCells, sizeOf, typeInfo, hi, hz1, h0', storeCells, hl, goInt]
  ·have hmpos : 0 < m := Nat.lt_of_lt_of_le h0 (Nat.min_le_left _ _)
   have hxpos : 0 < xs.length := Nat.lt_of_lt_of_le h0 (Nat.min_le_right _ _)
   obtain ⟨ad, rfl, hcells⟩ : ∃ ad, A = some ad ∧ ∃ news, Reps (d.K W) d.sz ys news ∧ ∀ j u, news[j]? = some u → W.cell? (ad.add j) = some u := by
    obtain ⟨ad, rfl, _⟩ := HR.2.2 hmpos
    exact ⟨ad, rfl, ReadsRow.inner_ HR⟩
   obtain ⟨news, hnr, hnc⟩ := hcells
   rcases hown.2 with ⟨_, hn0⟩ | ⟨g, cap, cur, rfl, hbg, hheap, hcap, hcm, hcs, htk⟩
   ·omega
   ·have hnewlen : news.length = m * d.sz := by rw [hnr.1, hm]
    have hkm : Nat.min m xs.length ≤ m := Nat.min_le_left _ _
    have hkx : Nat.min m xs.length ≤ xs.length := Nat.min_le_right _ _
    have hcslen : (news.take (Nat.min m xs.length * d.sz)).length = Nat.min m xs.length * d.sz := by
     rw [List.length_take, Nat.min_eq_left]; rw [hnewlen]; exact Nat.mul_le_mul_right _ hkm
    have hone : ∀ u ∈ news, u.oneCell' = true := by
     intro u hu
     obtain ⟨q, hq, rfl⟩ := List.mem_iff_getElem.1 hu
     have hql : q / d.sz < ys.length := by
      rw [Nat.div_lt_iff_lt_mul hs0, ← hnr.1]
      exact hq
     have hc := hnr.2 (q / d.sz) _ (List.getElem?_eq_getElem hql)
     refine d.K_one hc _ ?_
     rw [List.mem_iff_getElem?]
     refine ⟨q % d.sz, ?_⟩
     rw [List.getElem?_take, if_pos (Nat.mod_lt _ hs0), List.getElem?_drop, Nat.mul_comm, Nat.div_add_mod, List.getElem?_eq_getElem hq]
    have hld := run_loadCells_list (P := P) W ad (news.take (Nat.min m xs.length * d.sz)) (fun j u hu => by
     rw [List.getElem?_take] at hu
     split at hu
     ·exact hnc j u hu
     ·cases hu)
    rw [hcslen] at hld
    have hfit : Nat.min m xs.length * d.sz ≤ cur.size := by
     rw [hcs]; exact Nat.mul_le_mul_right _ (Nat.le_trans hkx hcap)
    have hst := run_storeCells_at P g 0 e (news.take (Nat.min m xs.length * d.sz)) 0 cur W hheap (by rw [hcslen]; omega) (fun u hu => hone u (List.mem_of_mem_take hu))
    rw [hcslen, Nat.zero_add, Nat.zero_add, List.take_zero, List.nil_append] at hst
    have hgt := setRow_heap W g cur (news.take (Nat.min m xs.length * d.sz) ++ cur.toList.drop (Nat.min m xs.length * d.sz)).toArray e (0, 0) hheap
    refine ⟨_, ?_, ?_, setRow_grown W g (news.take (Nat.min m xs.length * d.sz) ++ cur.toList.drop (Nat.min m xs.length * d.sz)).toArray⟩
    ·have hmin : ∀ p q : Nat, p.min q = min p q := fun _ _ => rfl
     simp only [hmin] at hld hst ⊢
     simp [Builtin.copy_, run_underlying ht, Builtin.lenOf, Builtin.firstCells, sizeOf, typeInfo, hi, hz1, hld, hst, goInt, copyN, hmin, hm]
    ·have hcl : copyL xs ys = ys.take (Nat.min m xs.length) ++ xs.drop (Nat.min m xs.length) := by
      have hmin : ∀ p q : Nat, p.min q = min p q := fun _ _ => rfl
      unfold copyL
      rw [hmin]
      rcases Nat.le_total m xs.length with hle | hle
      ·rw [Nat.min_eq_left hle, hm, List.take_of_length_le (by omega), List.take_of_length_le (by omega)]
      ·rw [Nat.min_eq_right hle, List.drop_of_length_le (by omega), List.drop_of_length_le (by omega)]
     have h1 := (reps_drop_take hnr _ (by rw [hm]; exact hkm)).1
     have h2 := (reps_drop_take hr _ hkx).2
     rw [hcl]
     refine ⟨hok, news.take (Nat.min m xs.length * d.sz) ++ inner.drop (Nat.min m xs.length * d.sz), ?_, reps_append (h1.imp_ (fun p c hp => hKM hp)) (h2.imp_ (fun p c hp => hflat hp))⟩
     have hlen : (ys.take (Nat.min m xs.length) ++ xs.drop (Nat.min m xs.length)).length = xs.length := by
      rw [← hcl]; exact copyL_length xs ys
     rw [hlen]
     have hin : inner.length = xs.length * d.sz := hown.1
     have hle2 : Nat.min m xs.length * d.sz ≤ xs.length * d.sz := Nat.mul_le_mul_right _ hkx
     refine ⟨by rw [List.length_append, hcslen, List.length_drop, hin]; omega, .inr ⟨g, cap, _, rfl, hbg, hgt, hcap, hcm, ?_, ?_⟩⟩
     ·simp only [List.size_toArray, List.length_append, hcslen, List.length_drop, Array.length_toList]
      omega
     ·rw [List.take_append, hcslen, List.take_of_length_le (by rw [hcslen]; exact hle2), ← htk, List.drop_take]
 obtain ⟨w1, hrun, h2, h3⟩ := hrun
 refine wpList_plain hgd fun K hK => ?_
 unfold Oper.wp execOp
 simp only [ho, resolve, invoke, builtin, Sem.run_bind, Sem.run_pure, Result.andThen_ok, List.map_toArray, List.map_cons, List.map_nil, hs, hx, hrun]
 exact hK _ _ (h w1 h2 (HB.grown h3 hbase (own_base hown)) h3)
end
attribute [local go_sem] max2_int min2_int max_two min_two max_three min_three max_four min_four   -- for this text's walks alone
set_option linter.unusedVariables false
set_option linter.unusedSimpArgs false
/-! ### custom_copied: function 78 -/
def custom_copied.f (l0 : List Int) : Option (List Int) := if 0 ≤ (l0.length : Int) then (if ((l0.length : Int) : Int).toNat ≤ 35184372088832 then (some (copyL (List.replicate ((l0.length : Int) : Int).toNat 0) l0)) else (none)) else (none)
set_option maxHeartbeats 8000000 in
set_option maxRecDepth 100000 in
theorem custom_copied.calls (A0 : Option Addr) (c0 : Nat) (l0 : List Int) (r : List Int) (w : World) (hr0 : Kd.C (Kd.int .i64) w A0 l0.length l0) (hc0 : l0.length ≤ c0) (h : custom_copied.f l0 = some r) :
  Calls Try.prog 78 #[.slice A0 l0.length c0] w fun e w' => ∃ v0_ : Value, e = .returned (v0_) ∧ Kd.R (Kd.int .i64) 3 w' w.heap.size (fun _ => True) v0_ r ∧ Below w.heap.size w w' := by
 have HR0 := Aside0.mk hr0; have HC0 := Aside0.mk hc0; clear hr0 hc0; have HB := Aside0.mk (Below.refl w.heap.size w)
 have H : (if 0 ≤ (l0.length : Int) then (if ((l0.length : Int) : Int).toNat ≤ 35184372088832 then (some (copyL (List.replicate ((l0.length : Int) : Int).toNat 0) l0)) else (none)) else (none)) = some r := h
 clear h
 by_cases c2 : 0 ≤ (l0.length : Int)
 ·rw [if_pos c2] at H
  have c2b0 := eq_true c2
  have c2b1 : decide (0 ≤ (l0.length : Int)) = true := decide_eq_true c2
  clear c2
  by_cases c3 : ((l0.length : Int) : Int).toNat ≤ 35184372088832
  ·rw [if_pos c3] at H
   have c3b0 := eq_true c3
   have c3b1 : decide (((l0.length : Int) : Int).toNat ≤ 35184372088832) = true := decide_eq_true c3
   clear c3
   obtain ⟨y276, hy276⟩ : ∃ y_ : List Int, y_ = (List.replicate ((l0.length : Int) : Int).toNat 0) := ⟨_, rfl⟩
   replace H : (some (copyL y276 l0)) = some r := by first | (rw [hy276]; with_reducible exact H) | (have H2_ := (Option.bind_some _ _).symm.trans H; rw [hy276]; with_reducible exact H2_) | (have H2_ := (Option.bind_some _ _).symm.trans H; with_reducible exact H2_) | with_reducible exact H | (rw [hy276]; exact H) | exact H
   have Ny276 := Aside0.mk hy276; clear hy276
   obtain ⟨y279, hy279⟩ : ∃ y_ : List Int, y_ = (copyL y276 l0) := ⟨_, rfl⟩
   replace H : (some y279) = some r := by first | (rw [hy279]; with_reducible exact H) | (have H2_ := (Option.bind_some _ _).symm.trans H; rw [hy279]; with_reducible exact H2_) | (have H2_ := (Option.bind_some _ _).symm.trans H; with_reducible exact H2_) | with_reducible exact H | (rw [hy279]; exact H) | exact H
   have Ny279 := Aside0.mk hy279; clear hy279
   obtain rfl := Option.some.inj H
   go_enter Try.func78, Try.ntmps78
   go_wp2_with (first | ((with_reducible refine gate_dst (N := 6) rfl ?_); refine Kd.R_make (Kd.int .i64) _ 3 rfl (N := 6) rfl 25 _ _ rfl (l0.length : Int) rfl rfl Try.underlying25 (.int .i64 0) 8 info3 rfl (by decide) (by omega) 0 (ok := fun _ => True) (okp := fun _ => True) rfl (fun _ hk => hk) trivial (odt) (Nat.le_trans (Nat.mul_le_mul_right _ (odt : (l0.length : Int).toNat ≤ 35184372088832)) (by omega)) (Below.refl _ _) (Nat.le_refl _) ?_; intro v277 w4 ho5 hb hg_ hnew_; clear hg_ hnew_; (first | rw [← Ny276.out] at ho5 | (simp only [Int.reduceToNat] at ho5; rw [← Ny276.out] at ho5)); have n0_ := Aside0.mk (Kd.R_lower ho5 (below_size (byB HB.out))); have n1_ := Aside0.mk (below_step (byB HB.out) hb); clear HB; have HO278 := n0_; have HB := n1_; clear n0_ n1_ hb ho5) | ((with_reducible refine gate_builtin (b := .copy) (xs := #[.tmp 7, .tmp 8]) rfl ?_); refine Kd.R_copy (Kd.int .i64) (fun h_ => h_) (fun h_ => h_) (w0 := w) w.heap.size rfl (.tmp 7) (.tmp 8) 25 _ 3 (.int .i64 0) 8 rfl Try.underlying25 info3 (by decide) v277 y276 l0 _ _ _ (fun _ => True) rfl rfl ?aO ?aR ?aB ?aS ?_; (case aR => repeat (first | exact (Kd.C_below HR0.out HB.out) | (with_reducible refine Kd.C_alloc ?_ _) | (with_reducible refine Kd.C_drewN ?_ _) | (with_reducible refine Kd.C_drew ?_))); (case aB => exact (byB HB.out)); (case aO => exact (byR HO278.out)); (case aS => exact (below_size (byB HB.out))); intro w6 hp_ hb hg; rw [← Ny279.out] at hp_; have n0_ := Aside0.mk (hp_); have n1_ := Aside0.mk (hb); clear HO278 HB; have HO278 := n0_; have HB := n1_; clear n0_ n1_ hg hb hp_))
   go_ret
   exact ⟨_, byE, by (with_reducible repeat (first | apply Kd.R_alloc | apply Kd.R_drewN | apply Kd.R_drew)); exact HO278.out, byB HB.out⟩
  ·rw [if_neg c3] at H
   exact absurd H (by simp)
 ·rw [if_neg c2] at H
  exact absurd H (by simp)
end Go.Proofs.Ytfnophaiamkmpaa.Print
