import Derived.Test.YtfnophaiamkmpaaM33
namespace Go.Proofs.Ytfnophaiamkmpaa.Print
open Go.RowKit Go.Proofs.YtfnophaiamkmpaaW.PrintWords Go.Proofs.YtfnophaiamkmpaaW.PrintLast Go.Proofs.YtfnophaiamkmpaaW.PrintMore
set_option linter.unusedVariables false
set_option linter.unusedSimpArgs false
theorem query_Meet.mtV {w : World} {q p n : Nat} {arcs : List S58} {L ws : List Int} (hk : Hk n arcs L) (hn : n ≤ 20) (hM : MetH w q p n arcs L ws) (hwl : ws.length = arcs.length) (hwr : ∀ i, i < ws.length → ws.getD i 0 ≤ 1073741824) (s t : Int) :
  Calls Try.prog 24 #[.pointer (some ⟨q, 0, none⟩), .int .i64 s, .int .i64 t] w fun e w' => Below w.heap.size w w' ∧ e = .returned (.tuple #[.int .i64 (Print.mtV n arcs L ws s t).1, .bool (Print.mtV n arcs L ws s t).2]) := by
 refine (query_Meet.calls hk hn hM hwl hwr s t).mono ?_
 rintro e w' ⟨hb, (⟨hv, rfl⟩ | ⟨x, y, hx, hy, hs, ht, rfl⟩)⟩
 ·exact ⟨hb, by rw [mtV_no hv]⟩
 ·exact ⟨hb, by rw [hk.mtV_at hx hy hs ht]⟩
structure MtD (n : Nat) (arcs : List S58) (L ws : List Int) (s t D F : Int) : Prop where
 no : (mtV n arcs L ws s t).2 = false → F ≠ 0 ∨ D = mInf
 yes : (mtV n arcs L ws s t).2 = true → F = 0 ∧ D = sumV (mtV n arcs L ws s t).1 (sumV (mtV n arcs L ws s t).1 0 (upl n arcs L ws false s)) (upl n arcs L ws true t)
theorem query_Dist.mtD {w : World} {q p n : Nat} {arcs : List S58} {L ws : List Int} (hk : Hk n arcs L) (hn : n ≤ 20) (hM : MetH w q p n arcs L ws) (hwl : ws.length = arcs.length) (hwr : ∀ i, i < ws.length → ws.getD i 0 ≤ 1073741824) (s t : Int) :
  Calls Try.prog 17 #[.pointer (some ⟨q, 0, none⟩), .int .i64 s, .int .i64 t] w fun e w' => Below w.heap.size w w' ∧ ∃ D F, e = .returned (.tuple #[.int .i64 D, .int .i64 F]) ∧ MtD n arcs L ws s t D F := by
 refine (query_Dist.calls hk hn hM hwl hwr s t).mono ?_
 rintro e w' ⟨hb, (⟨hv, rfl⟩ | ⟨x, y, hx, hy, hs, ht, (⟨hf, rfl⟩ | ⟨hf, rfl⟩)⟩)⟩
 ·refine ⟨hb, 0, 2, rfl, fun _ => .inl (by decide), fun e => ?_⟩
  rw [mtV_no hv] at e
  cases e
 ·refine ⟨hb, _, 0, rfl, fun e => ?_, fun _ => ⟨rfl, ?_⟩⟩
  ·rw [hk.mtV_at hx hy hs ht, hf] at e
   cases e
  ·rw [hk.mtV_at hx hy hs ht]
   exact (hk.meet_sum hwl hwr hn hx hy hs ht hf).symm
 ·refine ⟨hb, _, 0, rfl, fun _ => .inr rfl, fun e => ?_⟩
  rw [hk.mtV_at hx hy hs ht, hf] at e
  cases e
theorem sumV_take {v a : Int} {l : List S50} {k : Nat} (hk : k < l.length) : sumV v a (l.take (k + 1)) = if (l.getD k z50).f0 = v then sumV v a (l.take k) + (l.getD k z50).f1 else sumV v a (l.take k) := by
 rw [gR_ l hk]
 exact foldl_succ _ _ hk
def mapmakerlaw42_QueryMeets.f (a0_0 : Int) (l0_1 : List S58) (l0_2 : List Int) (l0_3 : List Int) (a1 : Int) (a2 : Int) : Option Bool := some true
set_option maxHeartbeats 6400000 in
set_option maxRecDepth 100000 in
theorem mapmakerlaw42_QueryMeets.calls (a0_0 : Int) (A0_1 : Option Addr) (c0_1 : Nat) (l0_1 : List S58) (A0_2 : Option Addr) (c0_2 : Nat) (l0_2 : List Int) (A0_3 : Option Addr) (c0_3 : Nat) (l0_3 : List Int) (a1 : Int) (a2 : Int) (r : Bool) (w : World) (hr0_1 : Kd.C k58 w A0_1 l0_1.length l0_1) (hc0_1 : l0_1.length ≤ c0_1) (hr0_2 : Kd.C (Kd.int .i64) w A0_2 l0_2.length l0_2) (hc0_2 : l0_2.length ≤ c0_2) (hr0_3 : Kd.C (Kd.int .i64) w A0_3 l0_3.length l0_3) (hc0_3 : l0_3.length ≤ c0_3) (h : mapmakerlaw42_QueryMeets.f a0_0 l0_1 l0_2 l0_3 a1 a2 = some r) :
  Calls Try.prog 6 #[.agg #[.int .i64 a0_0, .slice A0_1 l0_1.length c0_1, .slice A0_2 l0_2.length c0_2, .slice A0_3 l0_3.length c0_3], .int .i64 a1, .int .i64 a2] w fun e w' => e = .returned (.bool r) ∧ Below w.heap.size w w' := by
 injection h with h
 subst h
 obtain ⟨kv, fb, hfb, hfw⟩ := valid42 a0_0 l0_1 l0_2 l0_3
 have HFB := Aside0.mk hfb
 have HFW := Aside0.mk hfw
 have HG := Aside0.mk hr0_1
 have HL := Aside0.mk hr0_2
 have HW := Aside0.mk hr0_3
 have HGC := Aside0.mk hc0_1
 have HLC := Aside0.mk hc0_2
 have HWC := Aside0.mk hc0_3
 clear hr0_1 hr0_2 hr0_3 hc0_1 hc0_2 hc0_3 hfb hfw
 go_enter Try.func6, Try.ntmps6
 go_wp2_with (fail)
 have HBK := Aside0.mk (heap_alloc_new w (Obj.cells #[.int .i64 a0_0, .slice A0_1 l0_1.length c0_1, .slice A0_2 l0_2.length c0_2, .slice A0_3 l0_3.length c0_3] 27))
 have HBE : Below w.heap.size w (w.alloc (Obj.cells #[.int .i64 a0_0, .slice A0_1 l0_1.length c0_1, .slice A0_2 l0_2.length c0_2, .slice A0_3 l0_3.length c0_3] 27)) := (Below.refl _ _).alloc (Nat.le_refl _) _
 replace HG := Aside0.mk (Kd.C_below HG.out HBE)
 replace HL := Aside0.mk (Kd.C_below HL.out HBE)
 replace HW := Aside0.mk (Kd.C_below HW.out HBE)
 have HB := Aside0.mk HBE
 generalize w.alloc (Obj.cells #[.int .i64 a0_0, .slice A0_1 l0_1.length c0_1, .slice A0_2 l0_2.length c0_2, .slice A0_3 l0_3.length c0_3] 27) = w1 at HBK HG HL HW HB ⊢
 clear HBE
 refine (mapmakerlaw42_valid.calls kv a0_0 A0_1 c0_1 l0_1 A0_2 c0_2 l0_2 A0_3 c0_3 l0_3 fb w1 HG.out HGC.out HL.out HLC.out HW.out HWC.out HFB.out).mono ?_
 rintro e w2 ⟨rfl, hb2⟩
 replace HBK := Aside0.mk (blk_below HBK.out hb2)
 replace HG := Aside0.mk (Kd.C_below HG.out hb2)
 replace HL := Aside0.mk (Kd.C_below HL.out hb2)
 replace HW := Aside0.mk (Kd.C_below HW.out hb2)
 replace HB := Aside0.mk (below_then HB.out HB.out.size hb2)
 clear hb2
 cases fb with
 | false =>
  clear HFW
  go_wp2_with (fail)
  refine (mapmakerlaw42_lives.calls _).mono ?_
  rintro e wl ⟨rfl, hbl⟩
  replace HB := Aside0.mk (below_then HB.out HB.out.size hbl)
  clear hbl
  go_wp2
  go_ret
  exact ⟨rfl, HB.out⟩
 | true =>
  obtain ⟨n, rfl, ho⟩ := HFW.out rfl
  have HO := Aside0.mk ho
  clear ho HFW HFB
  have c0 := (blk_cell HBK.out 0).trans rfl
  have c1 := (blk_cell HBK.out 1).trans rfl
  have c2 := (blk_cell HBK.out 2).trans rfl
  have c3 := (blk_cell HBK.out 3).trans rfl
  go_wp2_with (fail)
  refine (law42_metric.calls HG.out HGC.out HL.out HLC.out HW.out HWC.out HO.out).mono ?_
  rintro e w3 ⟨hb3, q, p, rfl, hM⟩
  have HM := Aside0.mk hM
  replace HBK := Aside0.mk (blk_below HBK.out hb3)
  replace HG := Aside0.mk (Kd.C_below HG.out hb3)
  replace HL := Aside0.mk (Kd.C_below HL.out hb3)
  replace HW := Aside0.mk (Kd.C_below HW.out hb3)
  replace HB := Aside0.mk (below_then HB.out HB.out.size hb3)
  have hpc := HO.out.pc q p
  clear hM hb3 c0 c1 c2 c3
  go_wp2_with (fail)
  refine (query_Meet.mtV HO.out.hk hpc.hn HM.out hpc.wl hpc.wr a1 a2).mono ?_
  rintro e w4 ⟨hb4, rfl⟩
  replace HM := Aside0.mk (HM.out.below hb4)
  replace HBK := Aside0.mk (blk_below HBK.out hb4)
  replace HG := Aside0.mk (Kd.C_below HG.out hb4)
  replace HL := Aside0.mk (Kd.C_below HL.out hb4)
  replace HW := Aside0.mk (Kd.C_below HW.out hb4)
  replace HB := Aside0.mk (below_then HB.out HB.out.size hb4)
  clear hb4
  have c0 := (blk_cell HBK.out 0).trans rfl
  have c1 := (blk_cell HBK.out 1).trans rfl
  have c2 := (blk_cell HBK.out 2).trans rfl
  have c3 := (blk_cell HBK.out 3).trans rfl
  have HRM := Aside0.mk (ref42_Meet.calls HO.out.hk hpc.hn HG.out HGC.out HL.out HLC.out HW.out HWC.out hpc.wl hpc.wr (by have := HO.out.al; omega) a1 a2)
  go_wp2_with (fail)
  refine HRM.out.mono ?_
  rintro e w5 ⟨hb5, rfl⟩
  replace HM := Aside0.mk (HM.out.below hb5)
  replace HBK := Aside0.mk (blk_below HBK.out hb5)
  replace HG := Aside0.mk (Kd.C_below HG.out hb5)
  replace HL := Aside0.mk (Kd.C_below HL.out hb5)
  replace HW := Aside0.mk (Kd.C_below HW.out hb5)
  replace HB := Aside0.mk (below_then HB.out HB.out.size hb5)
  clear hb5 c0 c1 c2 c3 HRM
  have HDC := Aside0.mk (fun (W : World) (hW : MetH W q p n l0_1 l0_2 l0_3) => query_Dist.mtD HO.out.hk hpc.hn hW hpc.wl hpc.wr a1 a2)
  have HLa := Aside0.mk (HO.out.hk.upl_low hpc.wl hpc.wr hpc.hn false a1)
  have HLb := Aside0.mk (HO.out.hk.upl_low hpc.wl hpc.wr hpc.hn true a2)
  have hl1 := upl_len HO.out.hk hpc.wl hpc.wr hpc.hn false a1
  have hl2 := upl_len HO.out.hk hpc.wl hpc.wr hpc.hn true a2
  have HUA := Aside0.mk (fun (W : World) (hW : MetH W q p n l0_1 l0_2 l0_3) => query_Upward.upl HO.out.hk hpc.hn hW hpc.wl hpc.wr a1 false)
  have HUB := Aside0.mk (fun (W : World) (hW : MetH W q p n l0_1 l0_2 l0_3) => query_Upward.upl HO.out.hk hpc.hn hW hpc.wl hpc.wr a2 true)
  have HDD : Aside0 (∀ (W : World), MetH W q p n l0_1 l0_2 l0_3 → Calls Try.prog 17 #[.pointer (some ⟨q, 0, none⟩), .int .i64 a1, .int .i64 a2] W fun e w' => Below W.heap.size W w' ∧ ∃ D F, e = .returned (.tuple #[.int .i64 D, .int .i64 F]) ∧ (((mtV n l0_1 l0_2 l0_3 a1 a2).2 = false ∧ (F ≠ 0 ∨ D = mInf)) ∨ ((mtV n l0_1 l0_2 l0_3 a1 a2).2 = true ∧ F = 0 ∧ D = sumV (mtV n l0_1 l0_2 l0_3 a1 a2).1 (sumV (mtV n l0_1 l0_2 l0_3 a1 a2).1 0 (upl n l0_1 l0_2 l0_3 false a1)) (upl n l0_1 l0_2 l0_3 true a2)))) := ⟨fun W hW => (HDC.out W hW).mono (by
   rintro e w' ⟨h1, D, F, h2, h3⟩
   refine ⟨h1, D, F, h2, ?_⟩
   cases hm : (mtV n l0_1 l0_2 l0_3 a1 a2).2 with
   | false => exact .inl ⟨rfl, h3.no hm⟩
   | true => exact .inr ⟨rfl, h3.yes hm⟩)⟩
  clear HDC
  generalize upl n l0_1 l0_2 l0_3 false a1 = a at HLa hl1 HUA HDD
  generalize upl n l0_1 l0_2 l0_3 true a2 = b at HLb hl2 HUB HDD
  generalize mtV n l0_1 l0_2 l0_3 a1 a2 = mv at HDD ⊢
  obtain ⟨v, is⟩ := mv
  obtain ⟨m1, HM1⟩ : ∃ m1, Aside0 (a.length = m1) := ⟨_, ⟨rfl⟩⟩
  obtain ⟨m2, HM2⟩ : ∃ m2, Aside0 (b.length = m2) := ⟨_, ⟨rfl⟩⟩
  rw [HM1.out] at hl1
  rw [HM2.out] at hl2
  dsimp only at HDD ⊢
  have hvv : (v == v) = true := beq_self_eq_true v
  cases is with
  | false =>
   go_wp2_with (fail)
   refine (HDD.out _ HM.out).mono ?_
   rintro e w6 ⟨hb6, D, F, rfl, (⟨_, hd⟩ | ⟨h, _⟩)⟩
   rotate_left
   ·cases h
   replace HBK := Aside0.mk (blk_below HBK.out hb6)
   replace HG := Aside0.mk (Kd.C_below HG.out hb6)
   replace HL := Aside0.mk (Kd.C_below HL.out hb6)
   replace HW := Aside0.mk (Kd.C_below HW.out hb6)
   replace HB := Aside0.mk (below_then HB.out HB.out.size hb6)
   clear hb6
   by_cases hF : F = 0
   ·have hD : D = 1152921504606846976 := hd.resolve_left (fun h => h hF)
    subst hF
    subst hD
    go_wp2_with (fail)
    refine (mapmakerlaw42_lives.calls _).mono ?_
    rintro e wl ⟨rfl, hbl⟩
    replace HB := Aside0.mk (below_then HB.out HB.out.size hbl)
    clear hbl
    go_wp2
    go_ret
    exact ⟨rfl, HB.out⟩
   ·go_wp2_with (fail)
    refine (mapmakerlaw42_lives.calls _).mono ?_
    rintro e wl ⟨rfl, hbl⟩
    replace HB := Aside0.mk (below_then HB.out HB.out.size hbl)
    clear hbl
    go_wp2
    go_ret
    exact ⟨rfl, HB.out⟩
  | true =>
   go_wp2_with (fail)
   refine (HDD.out _ HM.out).mono ?_
   rintro e w6 ⟨hb6, D, F, rfl, (⟨h, _⟩ | ⟨_, rfl, hd⟩)⟩
   ·cases h
   have HD := Aside0.mk hd
   replace HM := Aside0.mk (HM.out.below hb6)
   replace HBK := Aside0.mk (blk_below HBK.out hb6)
   replace HG := Aside0.mk (Kd.C_below HG.out hb6)
   replace HL := Aside0.mk (Kd.C_below HL.out hb6)
   replace HW := Aside0.mk (Kd.C_below HW.out hb6)
   replace HB := Aside0.mk (below_then HB.out HB.out.size hb6)
   clear hb6 hd HDD
   go_wp2_with (fail)
   refine (HUA.out _ HM.out).mono ?_
   rintro e w7 ⟨hb7, A1, d1, rfl, _, hC1⟩
   have HU := Aside0.mk hC1
   replace HM := Aside0.mk (HM.out.below hb7)
   replace HBK := Aside0.mk (blk_below HBK.out hb7)
   replace HG := Aside0.mk (Kd.C_below HG.out hb7)
   replace HL := Aside0.mk (Kd.C_below HL.out hb7)
   replace HW := Aside0.mk (Kd.C_below HW.out hb7)
   replace HB := Aside0.mk (below_then HB.out HB.out.size hb7)
   clear hb7 hC1 HUA
   go_wp2_with (fail)
   refine (HUB.out _ HM.out).mono ?_
   rintro e w8 ⟨hb8, A2, d2, rfl, _, hC2⟩
   have HV := Aside0.mk hC2
   replace HU := Aside0.mk (Kd.C_below HU.out hb8)
   replace HBK := Aside0.mk (blk_below HBK.out hb8)
   replace HG := Aside0.mk (Kd.C_below HG.out hb8)
   replace HL := Aside0.mk (Kd.C_below HL.out hb8)
   replace HW := Aside0.mk (Kd.C_below HW.out hb8)
   replace HB := Aside0.mk (below_then HB.out HB.out.size hb8)
   clear hb8 hC2 HUB HM
   rw [HM1.out, HM2.out]
   obtain ⟨wY, hwY⟩ : ∃ q, q = w8 := ⟨_, rfl⟩
   subst hwY
   have HBY : Aside0 (Below wY.heap.size wY wY) := ⟨Below.refl _ _⟩
   go_wp2_with (fail)
   go_loopw [16, 17] (fun x i wr => ∃ (k : Nat), x = .int .i64 (sumV v 0 (a.take k)) ∧ i = .int .i64 (k : Int) ∧ k ≤ m1 ∧ 0 ≤ sumV v 0 (a.take k) ∧ sumV v 0 (a.take k) ≤ (0 + (k : Int)) * 100000000000000000 ∧ Aside0 (Below wY.heap.size wY wr)) (fun _ i _ => m1 - (intOf i).toNat)
   case atStart => exact ⟨0, rfl, rfl, Nat.zero_le _, by show 0 ≤ 0; omega, by show 0 ≤ _; omega, HBY⟩
   case round => as_aux_lemma =>
    clear HBY
    obtain ⟨k, rfl, rfl, hk, hs0, hs1, HBY⟩ := hrel
    by_cases hkm : k < m1
    ·have HST := Aside0.mk (sumV_take (v := v) (a := 0) (l := a) (k := k) (by have := HM1.out; omega))
     have hpl := HLa.out (a.getD k z50) (by rw [gR_ a (by have := HM1.out; omega)]; exact List.getElem_mem _)
     obtain ⟨ub, uo, rfl, hx0, hx1⟩ := reach_cells HU.out (i := k) (by have := HM1.out; omega)
     replace hx0 := (HBY.out.cell (World.block_lt_of_cell? wY _ hx0)).trans hx0
     replace hx1 := (HBY.out.cell (World.block_lt_of_cell? wY _ hx1)).trans hx1
     generalize a.getD k z50 = pq at HST hpl hx0 hx1
     obtain ⟨p0, p1⟩ := pq
     dsimp only at HST hpl hx0 hx1
     obtain ⟨s1, HS1⟩ : ∃ s1, Aside0 (sumV v 0 (a.take (k + 1)) = s1) := ⟨_, ⟨rfl⟩⟩
     rw [HS1.out] at HST
     generalize sumV v 0 (a.take k) = s0 at HST hs0 hs1 ⊢
     by_cases he : p0 = v
     ·have HE : Aside0 (s1 = s0 + p1) := ⟨by rw [HST.out, if_pos he]⟩
      go_wp2_with (fail)
      go_roundw
      case rel => exact ⟨k + 1, by rw [HS1.out, HE.out], by go_num, by omega, by rw [HS1.out, HE.out]; omega, by rw [HS1.out, HE.out]; omega, HBY⟩
      case measure => simp [intOf]; omega
     ·have HE : Aside0 (s1 = s0) := ⟨by rw [HST.out, if_neg he]⟩
      go_wp2_with (fail)
      go_roundw
      case rel => exact ⟨k + 1, by rw [HS1.out, HE.out], by go_num, by omega, by rw [HS1.out, HE.out]; omega, by rw [HS1.out, HE.out]; omega, HBY⟩
      case measure => simp [intOf]; omega
    ·have htk : a.take k = a := List.take_of_length_le (by have := HM1.out; omega)
     rw [htk] at hs0 hs1 ⊢
     generalize hA : sumV v 0 a = sa at hs0 hs1 HD ⊢
     go_wp2_with (fail)
     go_loopw [16, 18] (fun x i wr => ∃ (k : Nat), x = .int .i64 (sumV v sa (b.take k)) ∧ i = .int .i64 (k : Int) ∧ k ≤ m2 ∧ 0 ≤ sumV v sa (b.take k) ∧ sumV v sa (b.take k) ≤ (20 + (k : Int)) * 100000000000000000 ∧ Aside0 (Below wY.heap.size wY wr)) (fun _ i _ => m2 - (intOf i).toNat)
     case atStart => exact ⟨0, rfl, rfl, Nat.zero_le _, by show 0 ≤ sa; omega, by show sa ≤ _; omega, HBY⟩
     case round => as_aux_lemma =>
      clear HBY
      obtain ⟨k, rfl, rfl, hk, hs0, hs1, HBY⟩ := hrel
      by_cases hkm : k < m2
      ·have HST := Aside0.mk (sumV_take (v := v) (a := sa) (l := b) (k := k) (by have := HM2.out; omega))
       have hpl := HLb.out (b.getD k z50) (by rw [gR_ b (by have := HM2.out; omega)]; exact List.getElem_mem _)
       obtain ⟨ub, uo, rfl, hx0, hx1⟩ := reach_cells HV.out (i := k) (by have := HM2.out; omega)
       replace hx0 := (HBY.out.cell (World.block_lt_of_cell? wY _ hx0)).trans hx0
       replace hx1 := (HBY.out.cell (World.block_lt_of_cell? wY _ hx1)).trans hx1
       generalize b.getD k z50 = pq at HST hpl hx0 hx1
       obtain ⟨p0, p1⟩ := pq
       dsimp only at HST hpl hx0 hx1
       obtain ⟨s1, HS1⟩ : ∃ s1, Aside0 (sumV v sa (b.take (k + 1)) = s1) := ⟨_, ⟨rfl⟩⟩
       rw [HS1.out] at HST
       generalize sumV v sa (b.take k) = s0 at HST hs0 hs1 ⊢
       by_cases he : p0 = v
       ·have HE : Aside0 (s1 = s0 + p1) := ⟨by rw [HST.out, if_pos he]⟩
        go_wp2_with (fail)
        go_roundw
        case rel => exact ⟨k + 1, by rw [HS1.out, HE.out], by go_num, by omega, by rw [HS1.out, HE.out]; omega, by rw [HS1.out, HE.out]; omega, HBY⟩
        case measure => simp [intOf]; omega
       ·have HE : Aside0 (s1 = s0) := ⟨by rw [HST.out, if_neg he]⟩
        go_wp2_with (fail)
        go_roundw
        case rel => exact ⟨k + 1, by rw [HS1.out, HE.out], by go_num, by omega, by rw [HS1.out, HE.out]; omega, by rw [HS1.out, HE.out]; omega, HBY⟩
        case measure => simp [intOf]; omega
      ·have htk : b.take k = b := List.take_of_length_le (by have := HM2.out; omega)
       rw [htk] at hs0 hs1 ⊢
       replace HB := Aside0.mk (below_then HB.out HB.out.size HBY.out)
       generalize sumV v sa b = sb at hs0 hs1 HD ⊢
       have HDS : Aside0 (D = sb) := HD
       rw [HDS.out]
       go_wp2_with (fail)
       refine (mapmakerlaw42_lives.calls _).mono ?_
       rintro e wl ⟨rfl, hbl⟩
       replace HB := Aside0.mk (below_then HB.out HB.out.size hbl)
       clear hbl
       go_wp2
       go_ret
       exact ⟨rfl, HB.out⟩
end Go.Proofs.Ytfnophaiamkmpaa.Print
