/- A hierarchy that is only read; the calls of has, Rank, Parent. -/
import Derived.Test.YtcfeehaoeaoegaaHKHier
import Derived.Test.YtcfeehaoeaoegaaHKArcs
namespace Go.Proofs.Ytcfeehaoeaoegaa.Print
open Go.RowKit Go.Proofs.YtcfeehaoeaoegaaW.PrintWords Go.Proofs.YtcfeehaoeaoegaaW.PrintLast Go.Proofs.YtcfeehaoeaoegaaW.PrintMore
set_option linter.unusedVariables false
set_option linter.unusedSimpArgs false

/-- Block p is a hierarchy of n vertices, to be read. -/
structure HierR (w : World) (p n : Nat) (arcs : List S38) (L R : List Int) (S : HSt) : Prop where
  out : ∃ gA gc oA oc rA rc eA ec mb uA uc dA dc, w.heap[p]? = some (.cells #[.int .i64 (n : Int), .slice gA arcs.length gc, .slice oA L.length oc, .slice rA R.length rc, .slice eA S.edges.length ec, .map (some mb), .slice uA S.ups.length uc, .slice dA S.downs.length dc] 88 (0, 0)) ∧
    (Kd.C k38 w gA arcs.length arcs ∧ arcs.length ≤ gc) ∧ (Kd.C (Kd.int .i64) w oA L.length L ∧ L.length ≤ oc) ∧ (Kd.C (Kd.int .i64) w rA R.length R ∧ R.length ≤ rc) ∧ (Kd.C k38 w eA S.edges.length S.edges ∧ S.edges.length ≤ ec) ∧ MapIs encP (Value.int .i64) w mb S.num ∧
    (Kd.C (Kd.slice 3 (Kd.int .i64)) w uA S.ups.length S.ups ∧ S.ups.length ≤ uc) ∧ (Kd.C (Kd.slice 3 (Kd.int .i64)) w dA S.downs.length S.downs ∧ S.downs.length ≤ dc)
theorem HierR.below {w w1 : World} {p n : Nat} {arcs : List S38} {L R : List Int} {S : HSt} (h : HierR w p n arcs L R S) (hb : Below w.heap.size w w1) : HierR w1 p n arcs L R S := by
  obtain ⟨gA, gc, oA, oc, rA, rc, eA, ec, mb, uA, uc, dA, dc, h1, h2, h3, h4, h5, h6, h7, h8⟩ := h.out
  exact ⟨gA, gc, oA, oc, rA, rc, eA, ec, mb, uA, uc, dA, dc, (hb.block p (hblk_lt h1)).trans h1, ⟨Kd.C_below h2.1 hb, h2.2⟩, ⟨Kd.C_below h3.1 hb, h3.2⟩, ⟨Kd.C_below h4.1 hb, h4.2⟩, ⟨Kd.C_below h5.1 hb, h5.2⟩, h6.below hb, ⟨Kd.C_below h7.1 hb, h7.2⟩, ⟨Kd.C_below h8.1 hb, h8.2⟩⟩
def hasV (n : Nat) (v : Int) : Bool := decide (0 ≤ v) && decide (v < (n : Int))

set_option maxHeartbeats 1600000 in
set_option maxRecDepth 100000 in
theorem Hier_has.calls {w : World} {p n : Nat} {arcs : List S38} {L R : List Int} {S : HSt} (h : HierR w p n arcs L R S) (v : Int) :
    Calls Try.prog 58 #[.pointer (some ⟨p, 0, none⟩), .int .i64 v] w fun e w' => e = .returned (.bool (hasV n v)) ∧ w' = w := by
  obtain ⟨gA, gc, oA, oc, rA, rc, eA, ec, mb, uA, uc, dA, dc, h1, _⟩ := h.out
  have hc0 := (blk_cell h1 0).trans rfl
  clear h h1
  go_enter Try.func58, Try.ntmps58
  by_cases h0 : 0 ≤ v
  · by_cases h2 : v < (n : Int)
    · go_wp2
      go_ret
      exact ⟨by simp [hasV, h0, h2], rfl⟩
    · go_wp2
      go_ret
      exact ⟨by simp [hasV, h0, h2], rfl⟩
  · go_wp2
    go_ret
    exact ⟨by unfold hasV; simp; omega, rfl⟩
def rankS (n : Nat) (R : List Int) (v : Int) : Int := if hasV n v = true then R.getD v.toNat 0 else -1
end Go.Proofs.Ytcfeehaoeaoegaa.Print

namespace Go.Proofs.Ytcfeehaoeaoegaa.Print
open Go.RowKit Go.Proofs.YtcfeehaoeaoegaaW.PrintWords Go.Proofs.YtcfeehaoeaoegaaW.PrintLast Go.Proofs.YtcfeehaoeaoegaaW.PrintMore
set_option linter.unusedVariables false
set_option linter.unusedSimpArgs false

/-- A gathered hierarchy of n vertices fits together. -/
structure HOk (n : Nat) (S : HSt) : Prop where
  lenu : S.ups.length = n
  lend : S.downs.length = n
  upin : ∀ v, v < n → ∀ e ∈ S.ups.getD v [], 0 ≤ e ∧ e < (S.edges.length : Int)
/-! ### Find -/
theorem hput {B : Nat} {w w1 : World} (h : Below B w w1) (a : Addr) (v : Value) (ha : B ≤ a.block) : Below B w (w1.setCell a v) :=
  ⟨h.os, h.tape, h.output, by rw [setCell_size]; exact h.size, fun k hk => (Below.heap_setCell w1 a v k (by omega)).trans (h.block k hk)⟩
theorem yields_lookup {κ ε : Type} [DecidableEq κ] {encK : κ → Value} {encE : ε → Value} {P : Program} {w : World} {b : Nat} {m : List (κ × ε)} {t kt et : TypeId} {o : Oper} {a : Act} (K : KeyKind P kt encK) (ht : P.underlying t = some (.map kt et)) (z : ε) (hz : ∀ w, (zeroValue et).run P w = .ok (encE z) w) (mo x : Operand) (h : MapIs encK encE w b m) (k : κ)
    (hop : o.op = Op.lookup t mo x true) (hm : a.eval mo = .map (some b)) (hx : a.eval x = encK k) {v : Value} (hv : Value.tuple #[encE ((mget m k).getD z), .bool (mget m k).isSome] = v) : (execOp a.eval o).run P w = .ok (.value v) w := by
  have hrun := run_lookup_map K ht h z hz k true
  simp only [if_true] at hrun
  rw [hv] at hrun
  unfold execOp
  simp only [hop, Sem.run_bind, Sem.run_pure, Result.andThen_ok, hm, hx, hrun]
theorem zeroI_ (w : World) : (zeroValue 3).run Try.prog w = .ok (Value.int .i64 0) w := by kernel_rfl
def findKeyS (R : List Int) (u v : Int) : Int × Int := if R.getD u.toNat 0 > R.getD v.toNat 0 then (v, u) else (u, v)
def findS (n : Nat) (R : List Int) (S : HSt) (u v : Int) : Int × Bool := if hasV n u = true ∧ hasV n v = true then ((mget S.num (findKeyS R u v)).getD 0, (mget S.num (findKeyS R u v)).isSome) else (0, false)
set_option maxHeartbeats 3200000 in
set_option maxRecDepth 100000 in
theorem Hier_Find.calls {w : World} {p n : Nat} {arcs : List S38} {L R : List Int} {S : HSt} (h : HierR w p n arcs L R S) (hR : R.length = n) (u v : Int) :
    Calls Try.prog 17 #[.pointer (some ⟨p, 0, none⟩), .int .i64 u, .int .i64 v] w fun e w' => e = .returned (.tuple #[.int .i64 (findS n R S u v).1, .bool (findS n R S u v).2]) ∧ Below w.heap.size w w' := by
  have HH := Aside0.mk h
  go_enter Try.func17, Try.ntmps17
  go_wp2_with (fail)
  refine (Hier_has.calls HH.out u).mono ?_
  rintro e w' ⟨rfl, rfl⟩
  cases hu : hasV n u with
  | false =>
    have HP : Aside0 (findS n R S u v = (0, false)) := ⟨by unfold findS; rw [if_neg (fun h => by rw [hu] at h; exact absurd h.1 (by decide))]⟩
    clear h
    go_wp2_with (fail)
    go_ret2
    exact ⟨by rw [HP.out]; rfl, Below.refl _ _⟩
  | true =>
    go_wp2_with (fail)
    refine (Hier_has.calls HH.out v).mono ?_
    rintro e w' ⟨rfl, rfl⟩
    cases hv : hasV n v with
    | false =>
      have HP : Aside0 (findS n R S u v = (0, false)) := ⟨by unfold findS; rw [if_neg (fun h => by rw [hv] at h; exact absurd h.2 (by decide))]⟩
      clear h
      go_wp2_with (fail)
      go_ret2
      exact ⟨by rw [HP.out]; rfl, Below.refl _ _⟩
    | true =>
      have hu2 := hu
      have hv2 := hv
      simp only [hasV, Bool.and_eq_true, decide_eq_true_eq] at hu2 hv2
      obtain ⟨a, rfl⟩ := Int.eq_ofNat_of_zero_le hu2.1
      obtain ⟨b, rfl⟩ := Int.eq_ofNat_of_zero_le hv2.1
      have ha : a < n := by omega
      have hb : b < n := by omega
      have HP : Aside0 (findS n R S a b = ((mget S.num (findKeyS R a b)).getD 0, (mget S.num (findKeyS R a b)).isSome)) := ⟨by unfold findS; rw [if_pos ⟨hu, hv⟩]⟩
      clear h hu hv hu2 hv2
      obtain ⟨gA, gc, oA, oc, rA, rc, eA, ec, mb, uA, uc, dA, dc, h1, _, _, h4, _, h6, _⟩ := HH.out.out
      rcases cells_of_C h4.1 with ⟨h0, _⟩ | ⟨_, br, orr, rfl, hce⟩
      · omega
      have hca0 := hce a (by omega)
      have hcb0 := hce b (by omega)
      have HP2 : Aside0 (findKeyS R a b = if R.getD a 0 > R.getD b 0 then ((b : Int), (a : Int)) else ((a : Int), (b : Int))) := ⟨rfl⟩
      generalize R.getD a 0 = xa at hca0 HP2
      generalize R.getD b 0 = xb at hcb0 HP2
      have hc30 := (blk_cell h1 3).trans rfl
      have hc50 := (blk_cell h1 5).trans rfl
      rw [hR] at hc30
      go_upto_region 4 with (fail)
      have hbel : Below w'.heap.size w' (w'.alloc (Obj.cells #[Value.int IntKind.i64 ↑a, Value.int IntKind.i64 ↑b] 58)) := (Below.refl _ _).alloc (Nat.le_refl _) _
      have HBk := Aside0.mk hbel
      have HMk := Aside0.mk (h6.below hbel)
      have hca := pw_cell_below hbel hca0
      have hcb := pw_cell_below hbel hcb0
      have hc3 := pw_cell_below hbel hc30
      have HC5 := Aside0.mk (pw_cell_below hbel hc50)
      have HKk := Aside0.mk (heap_alloc_new w' (Obj.cells #[Value.int IntKind.i64 ↑a, Value.int IntKind.i64 ↑b] 58))
      have HNM : Aside0 (mb < w'.heap.size ∧ p < w'.heap.size) := ⟨⟨h6.lt, hblk_lt h1⟩⟩
      generalize w'.alloc (Obj.cells #[Value.int IntKind.i64 ↑a, Value.int IntKind.i64 ↑b] 58) = wk at HBk HMk hca hcb hc3 HC5 HKk ⊢
      generalize hkb : w'.heap.size = kb at HKk HNM ⊢
      clear hbel hca0 hcb0 hc30 hc50 h1 h4 h6 hce
      refine s_ (fun w' => w'.cell? ⟨p, 3, none⟩ = some (.slice (some ⟨br, orr, none⟩) n rc) ∧ w'.cell? ⟨br, orr + a, none⟩ = some (.int .i64 xa) ∧ w'.cell? ⟨br, orr + b, none⟩ = some (.int .i64 xb)) [] ⟨hc3, hca, hcb⟩ (fun hHeld => ?_)
      refine p_ 0 24 ?_
      refine p_ 1 25 ?_
      refine p_ 2 26 ?_
      refine t3_ 3 27 hHeld ?_
      refine p_ 4 28 ?_
      refine p_ 5 29 ?_
      refine t3_ 6 30 hHeld ?_
      refine p_ 7 31 ?_
      refine p_ 8 32 ?_
      refine p_ 9 33 ?_
      refine t3_ 10 34 hHeld ?_
      refine p_ 11 35 ?_
      refine p_ 12 36 ?_
      refine t3_ 13 37 hHeld ?_
      refine p_ 14 38 ?_
      refine d_ ?_
      clear hHeld
      have HKd : Aside0 (wk.drew.heap[kb]? = some (.cells #[Value.int IntKind.i64 ↑a, Value.int IntKind.i64 ↑b] 58 (0, 0))) := ⟨HKk.out⟩
      have HMd : Aside0 (MapIs encP (Value.int .i64) wk.drew mb S.num) := ⟨HMk.out⟩
      have HBd := Aside0.mk (below_drew HBk.out)
      have HC5d : Aside0 (wk.drew.cell? ⟨p, 5, none⟩ = some (.map (some mb))) := ⟨HC5.out⟩
      generalize wk.drew = wd at HKd HMd HBd HC5d ⊢
      clear hca hcb hc3
      by_cases hgt : xa > xb
      · rw [if_pos hgt] at HP2
        have hk0 := (blk_cell HKd.out 0).trans rfl
        have hk1 := (blk_cell HKd.out 1).trans rfl
        have hf0 : wd.frozen? ⟨kb, 0, none⟩ = false := blk_frozen HKd.out 0
        have hf1 : wd.frozen? ⟨kb, 1, none⟩ = false := blk_frozen HKd.out 1
        go_upto_region 6 with (fail)
        have HKs : Aside0 (((wd.setCell ⟨kb, 0, none⟩ (.int .i64 (b : Int))).setCell ⟨kb, 1, none⟩ (.int .i64 (a : Int))).heap[kb]? = some (.cells #[Value.int IntKind.i64 ↑b, Value.int IntKind.i64 ↑a] 58 (0, 0))) := ⟨by simp [World.setCell, Array.getElem?_modify, HKd.out]⟩
        have HMs : Aside0 (MapIs encP (Value.int .i64) ((wd.setCell ⟨kb, 0, none⟩ (.int .i64 (b : Int))).setCell ⟨kb, 1, none⟩ (.int .i64 (a : Int))) mb S.num) := ⟨(HMd.out.setCell _ _).setCell _ _⟩
        have HCs : Aside0 (((wd.setCell ⟨kb, 0, none⟩ (.int .i64 (b : Int))).setCell ⟨kb, 1, none⟩ (.int .i64 (a : Int))).cell? ⟨p, 5, none⟩ = some (.map (some mb))) := ⟨by
          have hpk : kb ≠ p := by have := HNM.out.2; omega
          refine (World.cell?_setCell_other (h := fun e => hpk (by injection e)) ..).trans ((World.cell?_setCell_other (h := fun e => hpk (by injection e)) ..).trans HC5d.out)⟩
        have HBs : Aside0 (Below kb w' ((wd.setCell ⟨kb, 0, none⟩ (.int .i64 (b : Int))).setCell ⟨kb, 1, none⟩ (.int .i64 (a : Int)))) := ⟨by
          have hb0 := HBd.out
          rw [hkb] at hb0
          exact hput (hput hb0 _ _ (Nat.le_refl _)) _ _ (Nat.le_refl _)⟩
        generalize (wd.setCell ⟨kb, 0, none⟩ (.int .i64 (b : Int))).setCell ⟨kb, 1, none⟩ (.int .i64 (a : Int)) = ws at HKs HMs HCs HBs ⊢
        clear hk0 hk1 hf0 hf1
        have hk0 := (blk_cell HKs.out 0).trans rfl
        have hk1 := (blk_cell HKs.out 1).trans rfl
        have hc5 := HCs.out
        have hmm := HMs.out
        refine s_ (fun w' => w'.cell? ⟨p, 5, none⟩ = some (.map (some mb)) ∧ w'.cell? ⟨kb, 0, none⟩ = some (.int .i64 (b : Int)) ∧ w'.cell? ⟨kb, 1, none⟩ = some (.int .i64 (a : Int)) ∧ MapIs encP (Value.int .i64) w' mb S.num) [] ⟨hc5, hk0, hk1, hmm⟩ (fun hHeld => ?_)
        refine p_ 0 43 ?_
        refine p_ 1 44 ?_
        refine p_ 2 45 ?_
        refine t4_ 3 46 hHeld ?_
        refine t4_ 4 47 hHeld ?_
        refine take_ (i := 5) (N := some 48) (v := ?_) (a' := ?_) (bits 11 63) rfl rfl (by kernel_rfl) (fun _ _ _ h => h) (Or.inl ⟨by rfl, ?_⟩) hHeld ?_ ?_; rotate_left; (·rintro w' ⟨s0, s1, s2, s3⟩; refine yields_lookup pKey Try.underlying86 0 zeroI_ (.tmp 46) (.tmp 47) s3 ((b : Int), (a : Int)) ?_ ?_ ?_ ?_ <;> rfl); rotate_left; (·simp only [putW]; rfl)
        refine p_ 6 42 ?_
        refine p_ 7 49 ?_
        refine p_ 8 50 ?_
        refine p_ 9 9 ?_
        refine p_ 10 10 ?_
        refine d_ ?_
        clear hHeld
        go_wp2
        go_ret2
        exact ⟨by rw [HP.out, HP2.out]; rfl, by rw [hkb]; exact below_drew HBs.out⟩
      · rw [if_neg hgt] at HP2
        go_upto_region 6 with (fail)
        have hk0 := (blk_cell HKd.out 0).trans rfl
        have hk1 := (blk_cell HKd.out 1).trans rfl
        have hc5 := HC5d.out
        have hmm := HMd.out
        refine s_ (fun w' => w'.cell? ⟨p, 5, none⟩ = some (.map (some mb)) ∧ w'.cell? ⟨kb, 0, none⟩ = some (.int .i64 (a : Int)) ∧ w'.cell? ⟨kb, 1, none⟩ = some (.int .i64 (b : Int)) ∧ MapIs encP (Value.int .i64) w' mb S.num) [] ⟨hc5, hk0, hk1, hmm⟩ (fun hHeld => ?_)
        refine p_ 0 43 ?_
        refine p_ 1 44 ?_
        refine p_ 2 45 ?_
        refine t4_ 3 46 hHeld ?_
        refine t4_ 4 47 hHeld ?_
        refine take_ (i := 5) (N := some 48) (v := ?_) (a' := ?_) (bits 11 63) rfl rfl (by kernel_rfl) (fun _ _ _ h => h) (Or.inl ⟨by rfl, ?_⟩) hHeld ?_ ?_; rotate_left; (·rintro w' ⟨s0, s1, s2, s3⟩; refine yields_lookup pKey Try.underlying86 0 zeroI_ (.tmp 46) (.tmp 47) s3 ((a : Int), (b : Int)) ?_ ?_ ?_ ?_ <;> rfl); rotate_left; (·simp only [putW]; rfl)
        refine p_ 6 42 ?_
        refine p_ 7 49 ?_
        refine p_ 8 50 ?_
        refine p_ 9 9 ?_
        refine p_ 10 10 ?_
        refine d_ ?_
        clear hHeld
        go_wp2
        go_ret2
        exact ⟨by rw [HP.out, HP2.out]; rfl, by rw [← hkb]; exact below_drew HBd.out⟩
end Go.Proofs.Ytcfeehaoeaoegaa.Print

namespace Go.Proofs.Ytcfeehaoeaoegaa.Print
open Go.RowKit Go.Proofs.YtcfeehaoeaoegaaW.PrintWords Go.Proofs.YtcfeehaoeaoegaaW.PrintLast Go.Proofs.YtcfeehaoeaoegaaW.PrintMore
set_option linter.unusedVariables false
set_option linter.unusedSimpArgs false

set_option maxHeartbeats 1600000 in
set_option maxRecDepth 100000 in
theorem Hier_Edges.calls {w : World} {p n : Nat} {arcs : List S38} {L R : List Int} {S : HSt} (h : HierR w p n arcs L R S) (hs : S.edges.length ≤ 1000000000) :
    Calls Try.prog 16 #[.pointer (some ⟨p, 0, none⟩)] w fun e w' => ∃ v : Value, e = .returned v ∧ Kd.R k38 38 w' w.heap.size (fun _ => True) v S.edges ∧ Below w.heap.size w w' := by
  obtain ⟨gA, gc, oA, oc, rA, rc, eA, ec, mb, uA, uc, dA, dc, h1, h2, h3, h4, h5, _⟩ := h.out
  have hc4 := (blk_cell h1 4).trans rfl
  have HE := Aside0.mk h5.1
  clear h h1 h2 h3 h4 h5
  go_enter Try.func16, Try.ntmps16
  go_wp2_with (fail)
  refine (clone_arcs _ _ _ _ HE.out hs).mono ?_
  rintro e w' ⟨v, rfl, hr, hb⟩
  have HR := Aside0.mk hr
  have HB := Aside0.mk hb
  clear hr hb
  go_wp2
  go_ret
  exact ⟨_, rfl, HR.out, HB.out⟩
def upS (n : Nat) (S : HSt) (v : Int) : List Int := if hasV n v = true then S.ups.getD v.toNat [] else []
end Go.Proofs.Ytcfeehaoeaoegaa.Print
