/- Several texts of this claim in one: HTLv, HXOpen. -/
import Derived.Test.YtaodlehnfjalnaaM9
import Derived.Test.YtaodlehnfjalnaaM14
import Derived.Test.YtaodlehnfjalnaaM3
import Derived.Test.YtaodlehnfjalnaaF29
import Derived.Test.YtaodlehnfjalnaaV0
import Derived.SizedLaws
import Derived.ChangeArms
import Derived.ChangeSame
import Derived.DataReads
namespace Go.Proofs.Ytaodlehnfjalnaa.Print
open Go.RowKit Go.Proofs.YtaodlehnfjalnaaW.PrintWords Go.Proofs.YtaodlehnfjalnaaW.PrintLast Go.Proofs.YtaodlehnfjalnaaW.PrintMore
set_option linter.unusedVariables false
set_option linter.unusedSimpArgs false
theorem C_turn {w : World} {b : Nat} (t : S42) (h : w.heap[b]? = some (.cells #[.int .i64 t.f0, .int .i64 t.f1, .int .i64 t.f2, .bool t.f3] 42 (0, 0))) : Kd.C k42 w (some ⟨b, 0, none⟩) 1 [t] := by
 refine ⟨rfl, by omega, fun _ => ⟨_, rfl, fun j p hj => ?_⟩⟩
 have hj0 : j = 0 := by
  rcases Nat.eq_zero_or_pos j with h0 | h0
  ·exact h0
  ·rw [List.getElem?_eq_none (by simp; omega)] at hj
   cases hj
 subst hj0
 injection hj with hj
 subst hj
 refine ⟨[.int .i64 t.f0, .int .i64 t.f1, .int .i64 t.f2, .bool t.f3], rfl, k42_mk _ _, fun i u hu => ?_⟩
 show w.cell? ((⟨b, 0, none⟩ : Addr).add (0 * 4 + i)) = _
 rw [Addr.add_lit, Nat.zero_add, Nat.zero_mul, Nat.zero_add, blk_cell h]
 rw [← Array.getElem?_toList]
 exact hu
def exN : List Int := [1, 2, 3, 4]
def exP : List S158 := List.replicate 4 z158
def exC : List S58 := [⟨0, 1, 1, 9, 1, ⟨[], 0, 0⟩⟩, ⟨1, 2, 3, 9, 1, ⟨[], 0, 0⟩⟩, ⟨1, 3, 4, 9, 1, ⟨[], 0, 0⟩⟩]
def exT : List S42 := [⟨1, 2, 3, false⟩]
theorem exX : mapmakerlaw47_cross.f = some (exN, exP, exC) := by kernel_rfl
theorem exL : (expL exN exC exT).length = 7 := by kernel_rfl
theorem exE : turns_Expand.f exN exP exC exT = some (11, expL exN exC exT) := by
 have h : chk46 exN exP exC = 0 := by kernel_rfl
 unfold turns_Expand.f
 rw [if_pos ⟨by decide, by decide⟩, if_pos h]
 rfl
theorem exA1 : turns_Allowed.f exN exP exC [] 0 1 = some true := by kernel_rfl
theorem exA2 : turns_Allowed.f exN exP exC exT 0 1 = some false := by kernel_rfl
theorem exA3 : turns_Allowed.f exN exP exC exT 0 2 = some true := by kernel_rfl
theorem exS1 : turns_Source.f 60 exN exP exC 0 = some 3 := by kernel_rfl
theorem exS2 : turns_Target.f 60 exN exP exC 0 = some 7 := by kernel_rfl
theorem C_nil0 {α : Type} (d : Kd α) (w : World) : Kd.C d w none 0 [] := by
 obtain ⟨A, c, h1, _, h3⟩ := Kd.R_reads (Kd.R_nil d 0 w 0 (fun _ => True))
 injection h1 with h1 _ _
 subst h1
 exact h3
def mapmakerlaw47_lives.f : Option Bool := some true
set_option maxHeartbeats 12800000 in
set_option maxRecDepth 100000 in
theorem mapmakerlaw47_lives.calls (r : Bool) (w : World) (h : mapmakerlaw47_lives.f = some r) :
  Calls Try.prog 9 #[] w fun e w' => e = .returned (.bool r) ∧ Below w.heap.size w w' := by
 injection h with h
 subst h
 go_enter Try.func9, Try.ntmps9
 go_wp2_with (fail)
 refine (mapmakerlaw47_cross.calls exN exP exC w exX).mono ?_
 rintro e w1 ⟨v0, v1, v2, rfl, h0, h1, h2, hb⟩
 obtain ⟨A0, c0, rfl, l0, C0⟩ := Kd.R_reads h0
 obtain ⟨A1, c1, rfl, l1, C1⟩ := Kd.R_reads h1
 obtain ⟨A2, c2, rfl, l2, C2⟩ := Kd.N_reads h2
 have HB := Aside0.mk hb
 have HN := Aside0.mk C0
 have HP := Aside0.mk C1
 have HC := Aside0.mk C2
 have HNL := Aside0.mk l0
 have HPL := Aside0.mk l1
 have HCL := Aside0.mk l2
 clear h0 h1 h2 hb C0 C1 C2 l0 l1 l2
 go_wp2_with (fail)
 have HBT := Aside0.mk (blk_alloc (heap_alloc_new w1 (Obj.cells #[.int .i64 1, .int .i64 2, .int .i64 3, .bool false] 42)) (Obj.cells #[.slice A0 exN.length c0, .slice A1 exP.length c1, .slice A2 exC.length c2] 37))
 have HBR := Aside0.mk (heap_alloc_new (w1.alloc (Obj.cells #[.int .i64 1, .int .i64 2, .int .i64 3, .bool false] 42)) (Obj.cells #[.slice A0 exN.length c0, .slice A1 exP.length c1, .slice A2 exC.length c2] 37))
 rw [World.size_alloc] at HBR
 have hb2 : Below w1.heap.size w1 ((w1.alloc (Obj.cells #[.int .i64 1, .int .i64 2, .int .i64 3, .bool false] 42)).alloc (Obj.cells #[.slice A0 exN.length c0, .slice A1 exP.length c1, .slice A2 exC.length c2] 37)) := ((Below.refl _ _).alloc (Nat.le_refl _) _).alloc (by rw [World.size_alloc]; omega) _
 replace HN := Aside0.mk (Kd.C_below HN.out hb2)
 replace HP := Aside0.mk (Kd.C_below HP.out hb2)
 replace HC := Aside0.mk (Kd.C_below HC.out hb2)
 replace HB := Aside0.mk (below_then HB.out HB.out.size hb2)
 have HT := Aside0.mk (C_turn (⟨1, 2, 3, false⟩ : S42) HBT.out)
 clear hb2 HBT
 generalize (w1.alloc (Obj.cells #[.int .i64 1, .int .i64 2, .int .i64 3, .bool false] 42)).alloc (Obj.cells #[.slice A0 exN.length c0, .slice A1 exP.length c1, .slice A2 exC.length c2] 37) = w2 at HBR HN HP HC HB HT ⊢
 refine (turns_Expand.calls A0 c0 exN A1 c1 exP A2 c2 exC (some ⟨w1.heap.size, 0, none⟩) 1 exT 11 (expL exN exC exT) w2 HN.out HNL.out HP.out HPL.out HC.out HCL.out HT.out (Nat.le_refl _) exE).mono ?_
 rintro e w3 ⟨v3, rfl, hr3, hb3⟩
 obtain ⟨GA, gc, rfl⟩ := Kd.R_slice hr3
 rw [exL]
 replace HBR := Aside0.mk (blk_below HBR.out hb3)
 replace HN := Aside0.mk (Kd.C_below HN.out hb3)
 replace HP := Aside0.mk (Kd.C_below HP.out hb3)
 replace HC := Aside0.mk (Kd.C_below HC.out hb3)
 replace HT := Aside0.mk (Kd.C_below HT.out hb3)
 replace HB := Aside0.mk (below_then HB.out HB.out.size hb3)
 clear hb3 hr3
 have d0 : w3.cell? ⟨w1.heap.size + 1, 0, none⟩ = some (.slice A0 exN.length c0) := blk_cell HBR.out 0
 have d1 : w3.cell? ⟨w1.heap.size + 1, 1, none⟩ = some (.slice A1 exP.length c1) := blk_cell HBR.out 1
 have d2 : w3.cell? ⟨w1.heap.size + 1, 2, none⟩ = some (.slice A2 exC.length c2) := blk_cell HBR.out 2
 have hlt : w1.heap.size + 1 < w3.heap.size := blk_lt HBR.out
 go_wp2_with (fail)
 have hb4 : Below w3.heap.size w3 (w3.alloc (Obj.cells #[.int .i64 11, .slice GA 7 gc] 51)) := (Below.refl _ _).alloc (Nat.le_refl _) _
 have HBG := Aside0.mk (heap_alloc_new w3 (Obj.cells #[.int .i64 11, .slice GA 7 gc] 51))
 replace HBR := Aside0.mk (blk_below HBR.out hb4)
 replace HN := Aside0.mk (Kd.C_below HN.out hb4)
 replace HP := Aside0.mk (Kd.C_below HP.out hb4)
 replace HC := Aside0.mk (Kd.C_below HC.out hb4)
 replace HT := Aside0.mk (Kd.C_below HT.out hb4)
 replace HB := Aside0.mk (below_then HB.out HB.out.size hb4)
 clear hb4 hlt d0 d1 d2
 generalize w3.alloc (Obj.cells #[.int .i64 11, .slice GA 7 gc] 51) = w4 at HBG HBR HN HP HC HT HB ⊢
 generalize w3.heap.size = bg at HBG ⊢
 refine (turns_Allowed.calls A0 c0 exN A1 c1 exP A2 c2 exC none 0 [] 0 1 true w4 HN.out HNL.out HP.out HPL.out HC.out HCL.out (C_nil0 _ _) (Nat.le_refl _) exA1).mono ?_
 rintro e w5 ⟨rfl, hb⟩
 replace HBR := Aside0.mk (blk_below HBR.out hb)
 replace HBG := Aside0.mk (blk_below HBG.out hb)
 replace HN := Aside0.mk (Kd.C_below HN.out hb)
 replace HP := Aside0.mk (Kd.C_below HP.out hb)
 replace HC := Aside0.mk (Kd.C_below HC.out hb)
 replace HT := Aside0.mk (Kd.C_below HT.out hb)
 replace HB := Aside0.mk (below_then HB.out HB.out.size hb)
 clear hb 
 have d0 : w5.cell? ⟨w1.heap.size + 1, 0, none⟩ = some (.slice A0 exN.length c0) := blk_cell HBR.out 0
 have d1 : w5.cell? ⟨w1.heap.size + 1, 1, none⟩ = some (.slice A1 exP.length c1) := blk_cell HBR.out 1
 have d2 : w5.cell? ⟨w1.heap.size + 1, 2, none⟩ = some (.slice A2 exC.length c2) := blk_cell HBR.out 2
 have g0 : w5.cell? ⟨bg, 0, none⟩ = some (.int .i64 11) := blk_cell HBG.out 0
 have g1 : w5.cell? ⟨bg, 1, none⟩ = some (.slice GA 7 gc) := blk_cell HBG.out 1
 go_wp2_with (fail)
 refine (turns_Allowed.calls A0 c0 exN A1 c1 exP A2 c2 exC (some ⟨w1.heap.size, 0, none⟩) 1 exT 0 1 false w5 HN.out HNL.out HP.out HPL.out HC.out HCL.out HT.out (Nat.le_refl _) exA2).mono ?_
 rintro e w6 ⟨rfl, hb⟩
 replace HBR := Aside0.mk (blk_below HBR.out hb)
 replace HBG := Aside0.mk (blk_below HBG.out hb)
 replace HN := Aside0.mk (Kd.C_below HN.out hb)
 replace HP := Aside0.mk (Kd.C_below HP.out hb)
 replace HC := Aside0.mk (Kd.C_below HC.out hb)
 replace HT := Aside0.mk (Kd.C_below HT.out hb)
 replace HB := Aside0.mk (below_then HB.out HB.out.size hb)
 clear hb d0 d1 d2 g0 g1
 have d0 : w6.cell? ⟨w1.heap.size + 1, 0, none⟩ = some (.slice A0 exN.length c0) := blk_cell HBR.out 0
 have d1 : w6.cell? ⟨w1.heap.size + 1, 1, none⟩ = some (.slice A1 exP.length c1) := blk_cell HBR.out 1
 have d2 : w6.cell? ⟨w1.heap.size + 1, 2, none⟩ = some (.slice A2 exC.length c2) := blk_cell HBR.out 2
 have g0 : w6.cell? ⟨bg, 0, none⟩ = some (.int .i64 11) := blk_cell HBG.out 0
 have g1 : w6.cell? ⟨bg, 1, none⟩ = some (.slice GA 7 gc) := blk_cell HBG.out 1
 go_wp2_with (fail)
 refine (turns_Allowed.calls A0 c0 exN A1 c1 exP A2 c2 exC (some ⟨w1.heap.size, 0, none⟩) 1 exT 0 2 true w6 HN.out HNL.out HP.out HPL.out HC.out HCL.out HT.out (Nat.le_refl _) exA3).mono ?_
 rintro e w7 ⟨rfl, hb⟩
 replace HBR := Aside0.mk (blk_below HBR.out hb)
 replace HBG := Aside0.mk (blk_below HBG.out hb)
 replace HN := Aside0.mk (Kd.C_below HN.out hb)
 replace HP := Aside0.mk (Kd.C_below HP.out hb)
 replace HC := Aside0.mk (Kd.C_below HC.out hb)
 replace HT := Aside0.mk (Kd.C_below HT.out hb)
 replace HB := Aside0.mk (below_then HB.out HB.out.size hb)
 clear hb d0 d1 d2 g0 g1
 have d0 : w7.cell? ⟨w1.heap.size + 1, 0, none⟩ = some (.slice A0 exN.length c0) := blk_cell HBR.out 0
 have d1 : w7.cell? ⟨w1.heap.size + 1, 1, none⟩ = some (.slice A1 exP.length c1) := blk_cell HBR.out 1
 have d2 : w7.cell? ⟨w1.heap.size + 1, 2, none⟩ = some (.slice A2 exC.length c2) := blk_cell HBR.out 2
 have g0 : w7.cell? ⟨bg, 0, none⟩ = some (.int .i64 11) := blk_cell HBG.out 0
 have g1 : w7.cell? ⟨bg, 1, none⟩ = some (.slice GA 7 gc) := blk_cell HBG.out 1
 go_wp2_with (fail)
 refine (turns_Source.calls 60 A0 c0 exN A1 c1 exP A2 c2 exC 0 3 w7 HN.out HNL.out HP.out HPL.out HC.out HCL.out exS1).mono ?_
 rintro e w8 ⟨rfl, hb⟩
 replace HBR := Aside0.mk (blk_below HBR.out hb)
 replace HBG := Aside0.mk (blk_below HBG.out hb)
 replace HN := Aside0.mk (Kd.C_below HN.out hb)
 replace HP := Aside0.mk (Kd.C_below HP.out hb)
 replace HC := Aside0.mk (Kd.C_below HC.out hb)
 replace HT := Aside0.mk (Kd.C_below HT.out hb)
 replace HB := Aside0.mk (below_then HB.out HB.out.size hb)
 clear hb d0 d1 d2 g0 g1
 have d0 : w8.cell? ⟨w1.heap.size + 1, 0, none⟩ = some (.slice A0 exN.length c0) := blk_cell HBR.out 0
 have d1 : w8.cell? ⟨w1.heap.size + 1, 1, none⟩ = some (.slice A1 exP.length c1) := blk_cell HBR.out 1
 have d2 : w8.cell? ⟨w1.heap.size + 1, 2, none⟩ = some (.slice A2 exC.length c2) := blk_cell HBR.out 2
 have g0 : w8.cell? ⟨bg, 0, none⟩ = some (.int .i64 11) := blk_cell HBG.out 0
 have g1 : w8.cell? ⟨bg, 1, none⟩ = some (.slice GA 7 gc) := blk_cell HBG.out 1
 go_wp2_with (fail)
 refine (turns_Target.calls 60 A0 c0 exN A1 c1 exP A2 c2 exC 0 7 w8 HN.out HNL.out HP.out HPL.out HC.out HCL.out exS2).mono ?_
 rintro e w9 ⟨rfl, hb⟩
 replace HBR := Aside0.mk (blk_below HBR.out hb)
 replace HBG := Aside0.mk (blk_below HBG.out hb)
 replace HN := Aside0.mk (Kd.C_below HN.out hb)
 replace HP := Aside0.mk (Kd.C_below HP.out hb)
 replace HC := Aside0.mk (Kd.C_below HC.out hb)
 replace HT := Aside0.mk (Kd.C_below HT.out hb)
 replace HB := Aside0.mk (below_then HB.out HB.out.size hb)
 clear hb d0 d1 d2 g0 g1
 have d0 : w9.cell? ⟨w1.heap.size + 1, 0, none⟩ = some (.slice A0 exN.length c0) := blk_cell HBR.out 0
 have d1 : w9.cell? ⟨w1.heap.size + 1, 1, none⟩ = some (.slice A1 exP.length c1) := blk_cell HBR.out 1
 have d2 : w9.cell? ⟨w1.heap.size + 1, 2, none⟩ = some (.slice A2 exC.length c2) := blk_cell HBR.out 2
 have g0 : w9.cell? ⟨bg, 0, none⟩ = some (.int .i64 11) := blk_cell HBG.out 0
 have g1 : w9.cell? ⟨bg, 1, none⟩ = some (.slice GA 7 gc) := blk_cell HBG.out 1
 go_wp2_with (fail)
 refine (turns_Of.nil0 w9).mono ?_
 rintro e wa ⟨rfl, hb⟩
 replace HB := Aside0.mk (below_then HB.out HB.out.size hb)
 clear hb d0 d1 d2 g0 g1
 go_wp2_with (fail)
 go_ret
 exact ⟨rfl, HB.out⟩
open Go.RowKit Go.Proofs.YtaodlehnfjalnaaW.PrintWords
def Wf (k : IntKind) (n : Int) : Prop := (Lit.int k n).wf = true
theorem Wf.i64 {n : Int} : Wf .i64 n ↔ -9223372036854775808 ≤ n ∧ n ≤ 9223372036854775807 := by
 unfold Wf
 simp [Lit.wf, IntKind.min, IntKind.max, IntKind.signed, IntKind.bits]
def Light {H : Type} (P : Program) (t : TypeId) (d : DataW H) : Prop := ∀ n ∈ d.weights P t, n ≤ 140737488351232
def Opens {α : Type} (P : Program) (d : Kd α) (t : TypeId) (G : α → Prop) : Prop :=
 ∀ {H : Type} (enc : TypeId × Value → H) (w : World) (base : Nat) (spare : Nat → Bool) (held : Bool) (fuel : Nat) (cs : List Value) (x : DataW H × List MemPlace),
  DataW.trod enc P w base spare held fuel t cs = some x → Light P t x.1 → ∃ v : α, d.K w v cs ∧ G v
theorem opens_int {P : Program} {t : TypeId} {k : IntKind} (ht : P.underlying t = some (.int k)) : Opens P (Kd.int k) t (Wf k) := by
 intro H enc w base spare held fuel cs x h _
 obtain ⟨n, rfl, _, hw⟩ := DataW.trod_int ht h
 exact ⟨n, rfl, hw⟩
theorem opens_bool {P : Program} {t : TypeId} (ht : P.underlying t = some .bool) : Opens P Kd.bool t (fun _ => True) := by
 intro H enc w base spare held fuel cs x h _
 obtain ⟨n, rfl, _⟩ := DataW.trod_bool ht h
 exact ⟨n, rfl, trivial⟩
theorem opens_iso {α β : Type} {P : Program} {t : TypeId} {d : Kd α} {G : α → Prop} (f : β → α) (g : α → β) (hfg : ∀ a, f (g a) = a) (h : Opens P d t G) : Opens P (Kd.iso d f) t (fun x => G (f x)) := by
 intro H enc w base spare held fuel cs x hx hw
 obtain ⟨v, hk, hg⟩ := h enc w base spare held fuel cs x hx hw
 exact ⟨g v, show d.K w (f (g v)) cs by rw [hfg]; exact hk, by show G (f (g v)); rw [hfg]; exact hg⟩
theorem light_all {H : Type} {P : Program} {e : TypeId} : ∀ {l : List (DataW H)} {d : DataW H}, d ∈ l → ∀ n ∈ d.weights P e, n ∈ DataW.weightsAll P e l
 | y :: r, d, hd, n, hn => by
  unfold DataW.weightsAll
  rw [List.mem_append]
  rcases List.mem_cons.1 hd with rfl | hd
  ·exact .inl hn
  ·exact .inr (light_all hd n hn)
theorem list_of_all {α : Type} {Q : Nat → α → Prop} : ∀ (n : Nat), (∀ i, i < n → ∃ v, Q i v) → ∃ l : List α, l.length = n ∧ ∀ i v, l[i]? = some v → Q i v
 | 0, _ => ⟨[], rfl, fun i v h => by simp at h⟩
 | n + 1, h => by
  obtain ⟨l, hl, hq⟩ := list_of_all n (fun i hi => h i (by omega))
  obtain ⟨v, hv⟩ := h n (by omega)
  refine ⟨l ++ [v], by simp [hl], fun i u hu => ?_⟩
  rcases Nat.lt_or_ge i l.length with hi | hi
  ·rw [List.getElem?_append_left hi] at hu
   exact hq i u hu
  ·rw [List.getElem?_append_right hi] at hu
   have : i = n := by
    have := (List.getElem?_eq_some_iff.1 hu).1
    simp at this
    omega
   subst this
   have : i - l.length = 0 := by omega
   rw [this] at hu
   simp at hu
   subst hu
   exact hv
theorem opens_slice {α : Type} {P : Program} {t e : TypeId} {d : Kd α} {G : α → Prop} (B : Nat) (ht : P.underlying t = some (.slice e)) (hc : P.cellsOf e = d.sz) (hb : P.bytesOf e = B) (h : Opens P d e G) :
  Opens P (Kd.slice e d) t (fun xs => xs.length * B ≤ 140737488351232 ∧ ∀ x ∈ xs, G x) := by
 intro H enc w base spare held fuel cs x hx hw
 rcases DataW.trod_slice ht hx with ⟨rfl, rfl⟩ | ⟨a, len, cap, elems, rest, n, _, rfl, rfl, hba, hl, hm, hel, hget, _, _⟩
 ·exact ⟨[], ⟨none, 0, rfl, Nat.le_refl _, rfl, by simp, fun h0 => absurd h0 (by simp)⟩, by simp, fun x hx => by simp at hx⟩
 ·have hwt : ∀ n ∈ (DataW.slice (elems.map (·.1)) (rest.map (·.1)) : DataW H).weights P t, n ≤ 140737488351232 := hw
  have hdef : (DataW.slice (elems.map (·.1)) (rest.map (·.1)) : DataW H).weights P t = ((elems.map (·.1)).length + (rest.map (·.1)).length) * P.bytesOf e :: (DataW.weightsAll P e (elems.map (·.1)) ++ DataW.weightsAll P e (rest.map (·.1))) := by
   simp [DataW.weights, ht]
  rw [hdef] at hwt
  obtain ⟨xs, hxl, hxq⟩ := list_of_all (Q := fun i v => G v ∧ ∃ c, c.length = d.sz ∧ d.K w v c ∧ ∀ j u, c[j]? = some u → w.cell? (a.add (i * d.sz + j)) = some u) len (fun i hi => by
   have hg := hget i hi
   rw [List.getElem?_eq_getElem (by omega)] at hg
   obtain ⟨c, hc1, hc2⟩ := Option.bind_eq_some_iff.1 hg
   rw [hc] at hc1
   obtain ⟨_, hcl, hat⟩ := World.cells?_some hc1
   obtain ⟨v, hk, hgv⟩ := h enc w base spare held n c _ hc2 (fun q hq => hwt q (List.mem_cons_of_mem _ (List.mem_append_left _ (light_all (List.mem_map.2 ⟨_, List.getElem_mem _, rfl⟩) q hq))))
   refine ⟨v, hgv, c, hcl, hk, fun j u hu => ?_⟩
   have hj : j < d.sz := by
    have := (List.getElem?_eq_some_iff.1 hu).1
    omega
   have := hat j hj
   rw [hu] at this
   rw [← this]
   congr 1
   unfold Addr.add
   by_cases hj0 : j = 0
   ·subst hj0; simp
   ·by_cases hi0 : i * d.sz = 0
    ·simp [hi0, hj0]
    ·simp [hi0, hj0, Nat.add_assoc])
  have hmax : len ≤ 9223372036854775807 := by simp only [maxLen] at hm; omega
  refine ⟨xs, ⟨some a, cap, by rw [hxl], by omega, hxl ▸ rfl, by omega, fun _ => ⟨a, rfl, fun j p hp => (hxq j p hp).2⟩⟩, ?_, fun y hy => ?_⟩
  ·have := hwt _ List.mem_cons_self
   rw [hb] at this
   simp only [List.length_map, hel] at this
   rw [hxl]
   exact Nat.le_trans (Nat.mul_le_mul_right _ (Nat.le_add_right _ _)) this
  ·obtain ⟨i, hi, rfl⟩ := List.mem_iff_getElem.1 hy
   exact (hxq i _ (List.getElem?_eq_getElem hi)).1
def OpensF {α : Type} (P : Program) (d : Kd α) (fs : List Field) (o : Nat) (G : α → Prop) : Prop :=
 ∀ {H : Type} (enc : TypeId × Value → H) (w : World) (base : Nat) (spare : Nat → Bool) (held : Bool) (n : Nat) (cs : List Value) (xs : List (DataW H × List MemPlace)),
  xs.length = fs.length → cs.length = d.sz → (∀ (i : Nat) (f : Field), fs[i]? = some f → DataW.trod enc P w base spare held n f.type ((cs.drop (f.offset - o)).take (P.cellsOf f.type)) = xs[i]?) →
  (∀ (i : Nat) (f : Field) (x : DataW H × List MemPlace), fs[i]? = some f → xs[i]? = some x → Light P f.type x.1) → ∃ v : α, d.K w v cs ∧ G v
theorem opensF_one {α : Type} {P : Program} {d : Kd α} {f : Field} {o : Nat} {G : α → Prop} (ho : f.offset = o) (hc : P.cellsOf f.type = d.sz) (h : Opens P d f.type G) : OpensF P d [f] o G := by
 intro H enc w base spare held n cs xs hl hcs hat hw
 have h0 := hat 0 f rfl
 rw [ho, Nat.sub_self, List.drop_zero, hc, ← hcs, List.take_length] at h0
 have hx : xs[0]? = some (xs[0]'(by rw [hl]; simp)) := List.getElem?_eq_getElem _
 rw [hx] at h0
 exact h enc w base spare held n cs _ h0 (hw 0 f _ rfl hx)
theorem opensF_cons {α β : Type} {P : Program} {a : Kd α} {b : Kd β} {f : Field} {fs : List Field} {o : Nat} {Ga : α → Prop} {Gb : β → Prop} (ho : f.offset = o) (hc : P.cellsOf f.type = a.sz) (hle : ∀ g ∈ fs, o + a.sz ≤ g.offset)
  (h : Opens P a f.type Ga) (h' : OpensF P b fs (o + a.sz) Gb) : OpensF P (Kd.pair a b) (f :: fs) o (fun x => Ga x.1 ∧ Gb x.2) := by
 intro H enc w base spare held n cs xs hl hcs hat hw
 have hcs' : cs.length = a.sz + b.sz := hcs
 match xs, hl with
 | x :: xs, hl =>
  have h0 := hat 0 f rfl
  rw [ho, Nat.sub_self, List.drop_zero, hc] at h0
  obtain ⟨v, hk, hg⟩ := h enc w base spare held n _ _ h0 (hw 0 f x rfl rfl)
  obtain ⟨u, hk', hg'⟩ := h' enc w base spare held n (cs.drop a.sz) xs (by simpa using hl) (by rw [List.length_drop]; omega) (fun i g hi => by
   have h1 := hat (i + 1) g hi
   have hle' := hle g (List.mem_of_getElem? hi)
   rw [List.drop_drop, show a.sz + (g.offset - (o + a.sz)) = g.offset - o by omega]
   exact h1) (fun i g y hi hy => hw (i + 1) g y hi hy)
  exact ⟨(v, u), ⟨cs.take a.sz, cs.drop a.sz, (List.take_append_drop _ _).symm, hk, hk'⟩, hg, hg'⟩
theorem opens_struct {α : Type} {P : Program} {t : TypeId} {d : Kd α} {fs : Array Field} {G : α → Prop} (ht : P.underlying t = some (.struct fs)) (hc : P.cellsOf t = d.sz) (h : OpensF P d fs.toList 0 G) : Opens P d t G := by
 intro H enc w base spare held fuel cs x hx hw
 obtain ⟨xs, n, _, rfl, hl, hlen, hat⟩ := DataW.trod_struct ht hx
 refine h enc w base spare held n cs xs (by simpa using hlen) (hl.trans hc) (fun i f hi => ?_) (fun i f y hi hy q hq => ?_)
 ·rw [Nat.sub_zero]
  exact hat i f (by simpa using hi)
 ·refine hw q ?_
  have : (DataW.agg (xs.map (·.1)) : DataW H).weights P t = DataW.weightsEach P (fs.toList.map (·.type)) (xs.map (·.1)) := by simp [DataW.weights, ht]
  show q ∈ (DataW.agg (xs.map (·.1)) : DataW H).weights P t
  rw [this]
  exact DataW.weights_mem_each (j := i) (t := f.type) (d := y.1) (by rw [List.getElem?_map, hi]; rfl) (by rw [List.getElem?_map, hy]; rfl) q hq
theorem open_param {α : Type} {P : Program} {d : Kd α} {t : TypeId} {G : α → Prop} (O : Opens P d t G) {H : Type} {enc : TypeId × Value → H} {w : World} {base : Nat} {spare : Nat → Bool} {held : Bool} {v : Value} {x : DataW H} {p : List MemPlace} {ts : List TypeId} {ds : List (DataW H)} {j : Nat}
  (hsz : (DataW.weightsEach P ts ds).all (· ≤ reachBytes) = true) (ht : ts[j]? = some t) (hd : ds[j]? = some x) (h : DataW.Trod enc P w base spare held t v x p) : ∃ y : α, d.K w y v.cells.toList ∧ G y := by
 obtain ⟨fuel, hf⟩ := h
 exact O enc w base spare held fuel _ _ hf (fun n hn => by
  have := List.all_eq_true.1 hsz n (DataW.weights_mem_each ht hd n hn)
  have h2 : n ≤ reachBytes := by simpa using this
  exact Nat.le_trans h2 (by decide))
end Go.Proofs.Ytaodlehnfjalnaa.Print
