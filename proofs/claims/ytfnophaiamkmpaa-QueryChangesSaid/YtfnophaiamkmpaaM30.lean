/- Several texts of this claim in one: HMPerm, HMMark, HMSetR, HMSetI. -/
import Derived.Test.YtfnophaiamkmpaaM19
namespace Go.Proofs.Ytfnophaiamkmpaa.Print
open Go.RowKit Go.Proofs.YtfnophaiamkmpaaW.PrintWords Go.Proofs.YtfnophaiamkmpaaW.PrintLast Go.Proofs.YtfnophaiamkmpaaW.PrintMore
set_option linter.unusedVariables false
set_option linter.unusedSimpArgs false
def permL (m : Int) : List Int → List Int → Int
 | a :: al, v :: vs => if a < 0 ∨ a ≥ m then 2 else if v < -1 ∨ v > 1073741824 then 17 else permL m al vs
 | _, _ => 0
def permC (m : Int) (al vs : List Int) : Int := if al.length = vs.length then permL m al vs else 12
theorem permL_drop {m : Int} {al vs : List Int} {j : Nat} (h1 : j < al.length) (h2 : j < vs.length) : permL m (al.drop j) (vs.drop j) = if al.getD j 0 < 0 ∨ al.getD j 0 ≥ m then 2 else if vs.getD j 0 < -1 ∨ vs.getD j 0 > 1073741824 then 17 else permL m (al.drop (j + 1)) (vs.drop (j + 1)) := by
 rw [List.drop_eq_getElem_cons h1, List.drop_eq_getElem_cons h2]
 have e1 : al.getD j 0 = al[j] := by simp [h1]
 have e2 : vs.getD j 0 = vs[j] := by simp [h2]
 rw [e1, e2]
 rfl
set_option maxHeartbeats 3200000 in
set_option maxRecDepth 100000 in
theorem Metric_permitted.calls {w : World} {q p : Nat} {ws : List Int} {ar : List (List Int)} {up dn : List Int} (h : MetR w q p ws ar up dn) {aA vA : Option Addr} {ac vc : Nat} {al vs : List Int} (ha : Kd.C (Kd.int .i64) w aA al.length al) (hv : Kd.C (Kd.int .i64) w vA vs.length vs) (hwl : ws.length ≤ 1000000) (hal : al.length ≤ 1000000) :
  Calls Try.prog 65 #[.pointer (some ⟨q, 0, none⟩), .slice aA al.length ac, .slice vA vs.length vc] w fun e w' => e = .returned (.int .i64 (permC (ws.length : Int) al vs)) ∧ w' = w := by
 obtain ⟨wA, wc, arA, arc, uA, uc, dA, dc, h1, h2, h3, h4, h5⟩ := h.out
 have hcc := (blk_cell h1 1).trans rfl
 have HA := Aside0.mk ha
 have HV := Aside0.mk hv
 clear h h1 h2 h3 h4 h5 ha hv
 go_enter Try.func65, Try.ntmps65
 by_cases hlen : al.length = vs.length
 ·have HLEN := Aside0.mk hlen
  have HP : Aside0 (permC (ws.length : Int) al vs = permL (ws.length : Int) al vs) := ⟨if_pos hlen⟩
  have hli : ¬ (((al.length : Int) == (vs.length : Int)) = false) := by simp [hlen]
  have HL : Aside0 (vs.length = al.length) := ⟨hlen.symm⟩
  rw [← hlen]
  clear hli hlen
  go_wp2_with (fail)
  go_loopw [16] (fun i wr => ∃ (j : Nat), i = .int .i64 (j : Int) ∧ j ≤ al.length ∧ wr = w ∧ Aside0 (permL (ws.length : Int) al vs = permL (ws.length : Int) (al.drop j) (vs.drop j))) (fun i _ => al.length - (intOf i).toNat)
  case atStart => exact ⟨0, rfl, Nat.zero_le _, rfl, ⟨rfl⟩⟩
  case round =>
   obtain ⟨j, rfl, hj, rfl, HD⟩ := hrel
   by_cases hjl : j < al.length
   ·have hjv : j < vs.length := by rw [HL.out]; exact hjl
    rcases cells_of_C HA.out with ⟨hz, _⟩ | ⟨_, ab, ao, hA1, hce⟩
    ·omega
    subst hA1
    have hca := hce j hjl
    clear hce
    rcases cells_of_C HV.out with ⟨hz, _⟩ | ⟨_, vb, vo, hA1, hce⟩
    ·have := HL.out; omega
    subst hA1
    have hcv := hce j hjv
    clear hce
    have HN : Aside0 (permL (ws.length : Int) al vs = if al.getD j 0 < 0 ∨ al.getD j 0 ≥ (ws.length : Int) then 2 else if vs.getD j 0 < -1 ∨ vs.getD j 0 > 1073741824 then 17 else permL (ws.length : Int) (al.drop (j + 1)) (vs.drop (j + 1))) := ⟨by rw [HD.out, permL_drop hjl hjv]⟩
    generalize al.getD j 0 = a at hca HN
    generalize vs.getD j 0 = v at hcv HN
    clear hjv
    by_cases ha0 : a < 0
    ·have HR : Aside0 (permC (ws.length : Int) al vs = 2) := ⟨by rw [HP.out, HN.out, if_pos (.inl ha0)]⟩
     go_wp2
     go_ret
     exact ⟨by rw [HR.out]; rfl, rfl⟩
    ·by_cases ha1 : a ≥ (ws.length : Int)
     ·have HR : Aside0 (permC (ws.length : Int) al vs = 2) := ⟨by rw [HP.out, HN.out, if_pos (.inr ha1)]⟩
      go_wp2
      go_ret
      exact ⟨by rw [HR.out]; rfl, rfl⟩
     ·by_cases hv0 : v < -1
      ·have HR : Aside0 (permC (ws.length : Int) al vs = 17) := ⟨by rw [HP.out, HN.out, if_neg (by omega), if_pos (.inl hv0)]⟩
       go_wp2
       go_ret
       exact ⟨by rw [HR.out]; rfl, rfl⟩
      ·by_cases hv1 : v > 1073741824
       ·have HR : Aside0 (permC (ws.length : Int) al vs = 17) := ⟨by rw [HP.out, HN.out, if_neg (by omega), if_pos (.inr hv1)]⟩
        go_wp2
        go_ret
        exact ⟨by rw [HR.out]; rfl, rfl⟩
       ·have HR : Aside0 (permL (ws.length : Int) al vs = permL (ws.length : Int) (al.drop (j + 1)) (vs.drop (j + 1))) := ⟨by rw [HN.out, if_neg (by omega), if_neg (by omega)]⟩
        go_wp2_with (fail)
        go_roundw
        case rel => exact ⟨j + 1, by go_num, by omega, by first | exact trivial | rfl, HR⟩
        case measure => simp [intOf]; omega
   ·have HR : Aside0 (permC (ws.length : Int) al vs = 0) := ⟨by rw [HP.out, HD.out, List.drop_of_length_le (by omega)]; unfold permL; rfl⟩
    go_wp2
    go_ret
    exact ⟨by rw [HR.out]; rfl, rfl⟩
 ·have HP : Aside0 (permC (ws.length : Int) al vs = 12) := ⟨if_neg hlen⟩
  have hli : ¬ ((al.length : Int) = (vs.length : Int)) := by omega
  go_wp2
  go_ret
  exact ⟨by rw [HP.out]; rfl, rfl⟩
def markS (n : Nat) (R : List Int) (S : HSt) (pd : List Bool) (u v : Int) : List Bool := if (findS n R S u v).2 = true then pd.set (findS n R S u v).1.toNat true else pd
theorem markS_len (n : Nat) (R : List Int) (S : HSt) (pd : List Bool) (u v : Int) : (markS n R S pd u v).length = pd.length := by
 unfold markS
 split
 ·exact List.length_set ..
 ·rfl
set_option maxHeartbeats 3200000 in
set_option maxRecDepth 100000 in
theorem Set_mark.calls {w : World} {q p n base b3 b11 Bp m : Nat} {arcs : List S58} {L R : List Int} {S : HSt} {pd : List Bool} {ok : Nat → Prop} (hh : HierR w p n arcs L R S) (hR : R.length = n) (hf : ∀ u v, (findS n R S u v).2 = true → 0 ≤ (findS n R S u v).1 ∧ (findS n R S u v).1 < (m : Int))
  (hb3 : w.cell? ⟨b3, 0, none⟩ = some (.pointer (some ⟨q, 0, none⟩))) (hq : w.cell? ⟨q, 0, none⟩ = some (.pointer (some ⟨p, 0, none⟩))) (hb11 : w.cell? ⟨b11, 0, none⟩ = some (.slice (some ⟨Bp, 0, none⟩) m m)) (hp : Kd.R Kd.bool 4 w base ok (.slice (some ⟨Bp, 0, none⟩) m m) pd) (hm : pd.length = m) (u v : Int) :
  Calls Try.prog 67 #[.int .i64 u, .int .i64 v, .pointer (some ⟨b3, 0, none⟩), .pointer (some ⟨b11, 0, none⟩)] w fun e w' => e = .returned (.tuple #[]) ∧ Bel (fun k => k = Bp) w w' ∧ Kd.R Kd.bool 4 w' base ok (.slice (some ⟨Bp, 0, none⟩) m m) (markS n R S pd u v) := by
 have HH := Aside0.mk hh
 have HF := Aside0.mk (hf u v)
 have HP := Aside0.mk hp
 have HM := Aside0.mk hm
 clear hh hf hp hm
 go_enter Try.func67, Try.ntmps67
 go_wp2_with (fail)
 refine (Hier_Find.calls HH.out hR u v).mono ?_
 rintro e w2 ⟨rfl, hb2⟩
 have HMK : Aside0 (markS n R S pd u v = if (findS n R S u v).2 = true then pd.set (findS n R S u v).1.toNat true else pd) := ⟨rfl⟩
 generalize findS n R S u v = f at HF HMK ⊢
 obtain ⟨fe, fb⟩ := f
 replace hb3 := pw_cell_below hb2 hb3
 replace hb11 := pw_cell_below hb2 hb11
 replace HP := Aside0.mk (Kd.R_below HP.out hb2)
 have HB := Aside0.mk ((Bel.refl (fun k => k = Bp) w).below hb2)
 clear hb2 hq
 cases fb with
 | false =>
  have HMK2 : Aside0 (markS n R S pd u v = pd) := ⟨HMK.out.trans (if_neg Bool.false_ne_true)⟩
  go_wp2
  go_end0
  exact ⟨rfl, HB.out, by rw [HMK2.out]; exact HP.out⟩
 | true =>
  have HMK2 : Aside0 (markS n R S pd u v = pd.set fe.toNat true) := ⟨HMK.out.trans (if_pos rfl)⟩
  obtain ⟨h0, h1⟩ := HF.out rfl
  obtain ⟨i, rfl⟩ := Int.eq_ofNat_of_zero_le h0
  rw [Int.toNat_natCast] at HMK2
  have hil : i < m := by omega
  have hcu := Kd.R_cell (enc := Value.bool) (h1 := fun _ => rfl) false (cap := m) (g := Bp) (by rw [HM.out]; exact HP.out) (i : Int) (by omega) (by rw [HM.out]; omega)
  rw [Int.toNat_natCast] at hcu
  obtain ⟨hcu, hfu⟩ := hcu
  have HPU := Aside0.mk (Kd.R_put (enc := Value.bool) (h1 := fun _ => rfl) (cap := m) (g := Bp) (e := 4) (by rw [HM.out]; exact HP.out) (i : Int) true).1
  rw [Int.toNat_natCast, HM.out] at HPU
  have HBU := Aside0.mk (HB.out.setCell ⟨Bp, i, none⟩ (.bool true) (.inl rfl))
  clear h0 h1
  go_wp2
  go_end0
  exact ⟨rfl, HBU.out, by rw [HMK2.out]; exact HPU.out⟩
structure GInv (W0 w : World) (n : Nat) (arcs : List S58) (S : HSt) (k : Nat) (ba : Bool) (x35 x40 x9 : Value) : Prop where
 bel : Below W0.heap.size W0 w
 hG : 1 ≤ k → ∃ A c, x35 = .agg #[.int .i64 (n : Int), .slice A arcs.length c] ∧ Kd.R k58 58 w W0.heap.size (fun _ => True) (.slice A arcs.length c) arcs
 hE : 2 ≤ k → ∃ A c, x40 = .slice A S.edges.length c ∧ Kd.R k58 58 w W0.heap.size (fun _ => True) (.slice A S.edges.length c) S.edges
 hA : ba = true → ∃ B, x9 = .pointer (some ⟨B, 0, none⟩) ∧ w.heap[B]? = some (.cells #[.int .i64 0, .slice none 0 0] 24 (0, 0)) ∧ W0.heap.size ≤ B
section
variable {W0 w w1 : World} {n : Nat} {arcs : List S58} {S : HSt} {k : Nat} {ba : Bool} {x35 x40 x9 : Value}
theorem GInv.move (h : GInv W0 w n arcs S k ba x35 x40 x9) (hb : Below w.heap.size w w1) : GInv W0 w1 n arcs S k ba x35 x40 x9 := by
 refine ⟨below_then h.bel h.bel.size hb, fun hk => ?_, fun hk => ?_, fun hk => ?_⟩
 ·obtain ⟨A, c, e, hr⟩ := h.hG hk
  exact ⟨A, c, e, Kd.R_below hr hb⟩
 ·obtain ⟨A, c, e, hr⟩ := h.hE hk
  exact ⟨A, c, e, Kd.R_below hr hb⟩
 ·obtain ⟨B, e, hm, hl⟩ := h.hA hk
  exact ⟨B, e, (hb.block B (hblk_lt hm)).trans hm, hl⟩
theorem GInv.putG (h : GInv W0 w n arcs S 0 ba x35 x40 x9) (hb : Below w.heap.size w w1) {A : Option Addr} {c : Nat} (hr : Kd.R k58 58 w1 w.heap.size (fun _ => True) (.slice A arcs.length c) arcs) : GInv W0 w1 n arcs S 1 ba (.agg #[.int .i64 (n : Int), .slice A arcs.length c]) x40 x9 := by
 have h1 := h.move hb
 exact ⟨h1.bel, fun _ => ⟨A, c, rfl, Kd.R_lower hr h.bel.size⟩, fun hk => absurd hk (by decide), h1.hA⟩
theorem GInv.putE (h : GInv W0 w n arcs S 1 ba x35 x40 x9) (hb : Below w.heap.size w w1) {A : Option Addr} {c : Nat} (hr : Kd.R k58 58 w1 w.heap.size (fun _ => True) (.slice A S.edges.length c) S.edges) : GInv W0 w1 n arcs S 2 ba x35 (.slice A S.edges.length c) x9 := by
 have h1 := h.move hb
 exact ⟨h1.bel, fun _ => h1.hG (by decide), fun _ => ⟨A, c, rfl, Kd.R_lower hr h.bel.size⟩, h1.hA⟩
theorem GInv.putA (h : GInv W0 w n arcs S k false x35 x40 x9) : GInv W0 (w.alloc (.cells #[.int .i64 0, .slice none 0 0] 24 (0, 0))) n arcs S k true x35 x40 (.pointer (some ⟨w.heap.size, 0, none⟩)) := by
 have h1 := h.move (w1 := w.alloc (.cells #[.int .i64 0, .slice none 0 0] 24 (0, 0))) ((Below.refl _ _).alloc (Nat.le_refl _) _)
 exact ⟨h1.bel, h1.hG, h1.hE, fun _ => ⟨_, rfl, heap_alloc_new w _, h.bel.size⟩⟩
end
def gF (y : Nat → Value) (b3 q p : Nat) (x35 x40 x9 : Value) : Act := { tmps := #[y 0, y 1, y 2, .pointer (some ⟨b3, 0, none⟩), y 4, y 5, y 6, y 7, y 8, x9, y 10, y 11, y 12, y 13, y 14, y 15, y 16, y 17, y 18, y 19, y 20, y 21, y 22, y 23, y 24, y 25, y 26, y 27, y 28, y 29, y 30, .pointer (some ⟨q, 0, none⟩), .pointer (some ⟨q, 0, none⟩), .pointer (some ⟨q, 0, none⟩), .pointer (some ⟨p, 0, none⟩), x35, .pointer (some ⟨q, 0, none⟩), .pointer (some ⟨q, 0, none⟩), .pointer (some ⟨q, 0, none⟩), .pointer (some ⟨p, 0, none⟩), x40, undef, undef, undef, undef, undef, undef, undef, undef, undef, undef, undef, undef, undef, undef, undef, undef, undef, undef, undef, undef, undef, undef, undef, undef, undef, undef, undef, undef, undef, undef, undef, undef, undef, undef, undef, undef, undef, undef, undef, undef, undef, undef, undef, undef, undef, undef, undef, undef, undef, undef, undef, undef, undef, undef, undef, undef, undef, undef, undef, undef, undef, undef, undef, undef, undef, undef, undef, undef, undef, undef, undef, undef, undef, undef, undef, undef, undef, undef, undef, undef, undef, undef, undef, undef, undef, undef, undef, undef, undef, undef, undef, undef, undef, undef, undef, undef, undef, undef, undef, undef, undef, undef, undef, undef, undef, undef, undef, undef, undef, undef, undef, undef, undef, undef, undef, undef, undef], defers := [] }
def GFin (Q : Exit → Act → World → Prop) (W0 : World) (y : Nat → Value) (b3 q p n : Nat) (arcs : List S58) (S : HSt) : Prop :=
 ∀ (w : World) (A : Option Addr) (c : Nat) (eA : Option Addr) (ec B : Nat), GInv W0 w n arcs S 2 true (.agg #[.int .i64 (n : Int), .slice A arcs.length c]) (.slice eA S.edges.length ec) (.pointer (some ⟨B, 0, none⟩)) → Q .normal { tmps := #[y 0, y 1, y 2, .pointer (some ⟨b3, 0, none⟩), y 4, y 5, y 6, y 7, y 8, .pointer (some ⟨B, 0, none⟩), .slice eA S.edges.length ec, y 11, y 12, y 13, y 14, y 15, y 16, y 17, y 18, y 19, y 20, y 21, y 22, y 23, y 24, y 25, y 26, y 27, y 28, y 29, y 30, .pointer (some ⟨q, 0, none⟩), .pointer (some ⟨q, 0, none⟩), .pointer (some ⟨q, 0, none⟩), .pointer (some ⟨p, 0, none⟩), .agg #[.int .i64 (n : Int), .slice A arcs.length c], .pointer (some ⟨q, 0, none⟩), .pointer (some ⟨q, 0, none⟩), .pointer (some ⟨q, 0, none⟩), .pointer (some ⟨p, 0, none⟩), .slice eA S.edges.length ec, undef, undef, undef, undef, undef, undef, undef, undef, undef, undef, undef, undef, undef, undef, undef, undef, undef, undef, undef, undef, undef, undef, undef, undef, undef, undef, undef, undef, undef, undef, undef, undef, undef, undef, undef, undef, undef, undef, undef, undef, undef, undef, undef, undef, undef, undef, undef, undef, undef, undef, undef, undef, undef, undef, undef, undef, undef, undef, undef, undef, undef, undef, undef, undef, undef, undef, undef, undef, undef, undef, undef, undef, undef, undef, undef, undef, undef, undef, undef, undef, undef, undef, undef, undef, undef, undef, undef, undef, undef, undef, undef, undef, undef, undef, undef, undef, undef, undef, undef, undef, undef, undef, undef, undef, undef, undef, undef, undef, undef, undef, undef, undef, undef, undef, undef, undef, undef], defers := [] } ((w.setCell ⟨B, 0, none⟩ (.int .i64 (n : Int))).setCell ⟨B, 1, none⟩ (.slice A arcs.length c))
abbrev gS (b3 q p : Nat) (w' : World) : Prop := w'.cell? ⟨b3, 0, none⟩ = some (.pointer (some ⟨q, 0, none⟩)) ∧ w'.cell? ⟨q, 0, none⟩ = some (.pointer (some ⟨p, 0, none⟩))
section
variable {Q : Exit → Act → World → Prop} {W0 : World} {b3 q p n : Nat} {arcs : List S58} {L R : List Int} {S : HSt} {y : Nat → Value}
variable (hq : gS b3 q p W0) (hh : HierR W0 p n arcs L R S) (hal : arcs.length ≤ 1000000) (hel : S.edges.length ≤ 1000000) (hQ : ∀ (c : List PanicEntry) (a : Act) (w : World) (d : Option Tmp) (v : Value), Q (.panic c) (a.put d v) w → Q (.panic c) a w)
theorem GInv.cell {w : World} {k : Nat} {ba : Bool} {x35 x40 x9 : Value} (hq : gS b3 q p W0) (h : GInv W0 w n arcs S k ba x35 x40 x9) : gS b3 q p w := ⟨pw_cell_below h.bel hq.1, pw_cell_below h.bel hq.2⟩
include hq hh hal hel hQ in
set_option maxHeartbeats 1600000 in
set_option maxRecDepth 100000 in
theorem gst_21 (hfin : GFin Q W0 y b3 q p n arcs S) {w : World} {x35 x40 x9 : Value} (h : GInv W0 w n arcs S 2 true x35 x40 x9) : wpAnyLast Try.prog .any (regOps (codeL (codeR (codeR (codeR (Try.f31.body.getD .skip)))))) Q (gS b3 q p) [11] 2 (bits 13 2047) (gF y b3 q p x35 x40 x9) w := by
 simp only [Try.f31, Option.getD_some, codeR, codeL, regOps, gF]
 have _ := hq; have _ := hh; have _ := hal; have _ := hel; have _ := hQ
 obtain ⟨A, c, rfl, hrA⟩ := h.hG (by decide)
 obtain ⟨eA, ec, rfl, hrE⟩ := h.hE (by decide)
 obtain ⟨B, rfl, hBk, hBl⟩ := h.hA rfl
 have k0 := (blk_cell hBk 0).trans rfl
 have k1 := (blk_cell hBk 1).trans rfl
 have z0 : w.frozen? ⟨B, 0, none⟩ = false := blk_frozen hBk 0
 have z1 : w.frozen? ⟨B, 1, none⟩ = false := blk_frozen hBk 1
 refine l_ 11 (fun K hK => ?_)
 refine skip_ (w1 := ?_) (by rfl) rfl ?_ ?_
 rotate_left; (·go_simp; rfl)
 refine hK.out _ _ ?_
 refine p_ 12 10 ?_ (hQ := fun c a w h => hQ c a w _ _ h)
 refine d_ ?_
 unfold GFin at hfin
 exact hfin _ _ _ _ _ _ h
include hq hh hal hel hQ in
set_option maxHeartbeats 1600000 in
set_option maxRecDepth 100000 in
theorem gst_11 (hfin : GFin Q W0 y b3 q p n arcs S) {w : World} {x35 x40 x9 : Value} (h : GInv W0 w n arcs S 1 true x35 x40 x9) : wpAnyLast Try.prog .any (regOps (codeL (codeR (codeR (codeR (Try.f31.body.getD .skip)))))) Q (gS b3 q p) [11] 3 (bits 13 1535) (gF y b3 q p x35 x40 x9) w := by
 simp only [Try.f31, Option.getD_some, codeR, codeL, regOps, gF]
 have _ := hq; have _ := hh; have _ := hal; have _ := hel; have _ := hQ
 refine ready_ (rs := [9]) (by kernel_rfl) (by decide) ?_
 refine m_ 9 40 (fun K hK => ?_) ?_; rotate_left
 exact AllReadyL.nil
 ·refine goes_ Try.func28 (by kernel_rfl) rfl #[.pointer (some ⟨p, 0, none⟩)] (by rfl) rfl rfl byL ?_
  refine (Hier_Edges.calls (hh.below h.bel) (by omega)).mono ?_
  rintro e w1 ⟨v, rfl, hr, hb⟩
  obtain ⟨Av, cv, rfl⟩ := Kd.R_slice hr
  refine ⟨_, rfl, ?_⟩
  have h' := h.putE hb hr
  refine hK.out _ _ (h'.cell hq) (fun _ => ?_)
  refine n_ 40 ?_
  exact gst_21 hq hh hal hel hQ hfin h'
include hq hh hal hel hQ in
set_option maxHeartbeats 1600000 in
set_option maxRecDepth 100000 in
theorem gst_20 (hfin : GFin Q W0 y b3 q p n arcs S) {w : World} {x35 x40 x9 : Value} (h : GInv W0 w n arcs S 2 false x35 x40 x9) : wpAnyLast Try.prog .any (regOps (codeL (codeR (codeR (codeR (Try.f31.body.getD .skip)))))) Q (gS b3 q p) [11] 3 (bits 13 1023) (gF y b3 q p x35 x40 x9) w := by
 simp only [Try.f31, Option.getD_some, codeR, codeL, regOps, gF]
 have _ := hq; have _ := hh; have _ := hal; have _ := hel; have _ := hQ
 refine ready_ (rs := [10]) (by kernel_rfl) (by decide) ?_
 refine m_ 10 9 (fun K hK => ?_) ?_; rotate_left
 exact AllReadyL.nil
 ·refine value_ (w1 := ?_) (v := ?_) (by rfl) rfl ?_ ?_; rotate_left 2; (·go_simp; constructor; (·rfl); (·rfl))
  have h' := h.putA
  refine hK.out _ _ (h'.cell hq) (fun _ => ?_)
  refine n_ 9 ?_
  exact gst_21 hq hh hal hel hQ hfin h'
include hq hh hal hel hQ in
set_option maxHeartbeats 1600000 in
set_option maxRecDepth 100000 in
theorem gst_01 (hfin : GFin Q W0 y b3 q p n arcs S) {w : World} {x35 x40 x9 : Value} (h : GInv W0 w n arcs S 0 true x35 x40 x9) : wpAnyLast Try.prog .any (regOps (codeL (codeR (codeR (codeR (Try.f31.body.getD .skip)))))) Q (gS b3 q p) [11] 4 (bits 13 1519) (gF y b3 q p x35 x40 x9) w := by
 simp only [Try.f31, Option.getD_some, codeR, codeL, regOps, gF]
 have _ := hq; have _ := hh; have _ := hal; have _ := hel; have _ := hQ
 refine ready_ (rs := [4]) (by kernel_rfl) (by decide) ?_
 refine m_ 4 35 (fun K hK => ?_) ?_; rotate_left
 exact AllReadyL.nil
 ·refine goes_ Try.func66 (by kernel_rfl) rfl #[.pointer (some ⟨p, 0, none⟩)] (by rfl) rfl rfl byL ?_
  refine (Hier_Graph.calls (hh.below h.bel) (by omega)).mono ?_
  rintro e w1 ⟨v, rfl, hr, hb⟩
  obtain ⟨Av, cv, rfl⟩ := Kd.R_slice hr
  refine ⟨_, rfl, ?_⟩
  have h' := h.putG hb hr
  refine hK.out _ _ (h'.cell hq) (fun _ => ?_)
  refine n_ 35 ?_
  exact gst_11 hq hh hal hel hQ hfin h'
include hq hh hal hel hQ in
set_option maxHeartbeats 1600000 in
set_option maxRecDepth 100000 in
theorem gst_10 (hfin : GFin Q W0 y b3 q p n arcs S) {w : World} {x35 x40 x9 : Value} (h : GInv W0 w n arcs S 1 false x35 x40 x9) : wpAnyLast Try.prog .any (regOps (codeL (codeR (codeR (codeR (Try.f31.body.getD .skip)))))) Q (gS b3 q p) [11] 4 (bits 13 511) (gF y b3 q p x35 x40 x9) w := by
 simp only [Try.f31, Option.getD_some, codeR, codeL, regOps, gF]
 have _ := hq; have _ := hh; have _ := hal; have _ := hel; have _ := hQ
 refine ready_ (rs := [9, 10]) (by kernel_rfl) (by decide) ?_
 refine m_ 9 40 (fun K hK => ?_) ?_; rotate_left
 refine m_ 10 9 (fun K hK => ?_) ?_; rotate_left
 exact AllReadyL.nil
 ·refine goes_ Try.func28 (by kernel_rfl) rfl #[.pointer (some ⟨p, 0, none⟩)] (by rfl) rfl rfl byL ?_
  refine (Hier_Edges.calls (hh.below h.bel) (by omega)).mono ?_
  rintro e w1 ⟨v, rfl, hr, hb⟩
  obtain ⟨Av, cv, rfl⟩ := Kd.R_slice hr
  refine ⟨_, rfl, ?_⟩
  have h' := h.putE hb hr
  refine hK.out _ _ (h'.cell hq) (fun _ => ?_)
  refine n_ 40 ?_
  exact gst_20 hq hh hal hel hQ hfin h'
 ·refine value_ (w1 := ?_) (v := ?_) (by rfl) rfl ?_ ?_; rotate_left 2; (·go_simp; constructor; (·rfl); (·rfl))
  have h' := h.putA
  refine hK.out _ _ (h'.cell hq) (fun _ => ?_)
  refine n_ 9 ?_
  exact gst_11 hq hh hal hel hQ hfin h'
include hq hh hal hel hQ in
set_option maxHeartbeats 1600000 in
set_option maxRecDepth 100000 in
theorem gst_00 (hfin : GFin Q W0 y b3 q p n arcs S) {w : World} {x35 x40 x9 : Value} (h : GInv W0 w n arcs S 0 false x35 x40 x9) : wpAnyLast Try.prog .any (regOps (codeL (codeR (codeR (codeR (Try.f31.body.getD .skip)))))) Q (gS b3 q p) [11] 5 (bits 13 495) (gF y b3 q p x35 x40 x9) w := by
 simp only [Try.f31, Option.getD_some, codeR, codeL, regOps, gF]
 have _ := hq; have _ := hh; have _ := hal; have _ := hel; have _ := hQ
 refine ready_ (rs := [4, 10]) (by kernel_rfl) (by decide) ?_
 refine m_ 4 35 (fun K hK => ?_) ?_; rotate_left
 refine m_ 10 9 (fun K hK => ?_) ?_; rotate_left
 exact AllReadyL.nil
 ·refine goes_ Try.func66 (by kernel_rfl) rfl #[.pointer (some ⟨p, 0, none⟩)] (by rfl) rfl rfl byL ?_
  refine (Hier_Graph.calls (hh.below h.bel) (by omega)).mono ?_
  rintro e w1 ⟨v, rfl, hr, hb⟩
  obtain ⟨Av, cv, rfl⟩ := Kd.R_slice hr
  refine ⟨_, rfl, ?_⟩
  have h' := h.putG hb hr
  refine hK.out _ _ (h'.cell hq) (fun _ => ?_)
  refine n_ 35 ?_
  exact gst_10 hq hh hal hel hQ hfin h'
 ·refine value_ (w1 := ?_) (v := ?_) (by rfl) rfl ?_ ?_; rotate_left 2; (·go_simp; constructor; (·rfl); (·rfl))
  have h' := h.putA
  refine hK.out _ _ (h'.cell hq) (fun _ => ?_)
  refine n_ 9 ?_
  exact gst_01 hq hh hal hel hQ hfin h'
include hq hh hal hel hQ in
set_option maxHeartbeats 1600000 in
set_option maxRecDepth 100000 in
theorem set_region {y0 y1 y2 y4 y5 y6 y7 y8 y10 y11 y12 y13 y14 y15 y16 y17 y18 y19 y20 y21 y22 y23 y24 y25 y26 y27 y28 y29 y30 : Value} (hfin : GFin Q W0 (fun i => match i with | 0 => y0 | 1 => y1 | 2 => y2 | 4 => y4 | 5 => y5 | 6 => y6 | 7 => y7 | 8 => y8 | 10 => y10 | 11 => y11 | 12 => y12 | 13 => y13 | 14 => y14 | 15 => y15 | 16 => y16 | 17 => y17 | 18 => y18 | 19 => y19 | 20 => y20 | 21 => y21 | 22 => y22 | 23 => y23 | 24 => y24 | 25 => y25 | 26 => y26 | 27 => y27 | 28 => y28 | 29 => y29 | 30 => y30 | _ => undef) b3 q p n arcs S) {w : World} (hi : GInv W0 w.drew n arcs S 0 false undef undef undef) : (Code.region 6 (regOps (codeL (codeR (codeR (codeR (Try.f31.body.getD .skip)))))) true).wp Try.prog Q { tmps := #[y0, y1, y2, .pointer (some ⟨b3, 0, none⟩), y4, y5, y6, y7, y8, undef, y10, y11, y12, y13, y14, y15, y16, y17, y18, y19, y20, y21, y22, y23, y24, y25, y26, y27, y28, y29, y30, undef, undef, undef, undef, undef, undef, undef, undef, undef, undef, undef, undef, undef, undef, undef, undef, undef, undef, undef, undef, undef, undef, undef, undef, undef, undef, undef, undef, undef, undef, undef, undef, undef, undef, undef, undef, undef, undef, undef, undef, undef, undef, undef, undef, undef, undef, undef, undef, undef, undef, undef, undef, undef, undef, undef, undef, undef, undef, undef, undef, undef, undef, undef, undef, undef, undef, undef, undef, undef, undef, undef, undef, undef, undef, undef, undef, undef, undef, undef, undef, undef, undef, undef, undef, undef, undef, undef, undef, undef, undef, undef, undef, undef, undef, undef, undef, undef, undef, undef, undef, undef, undef, undef, undef, undef, undef, undef, undef, undef, undef, undef, undef, undef, undef, undef, undef, undef, undef, undef, undef, undef, undef, undef, undef, undef, undef, undef], defers := [] } w := by
 simp only [Try.f31, Option.getD_some, codeR, codeL, regOps]
 refine s_ (gS b3 q p) [11] (hi.cell hq) (fun hHeld => ?_)
 refine t2_ 0 31 hHeld ?_ (hQ := fun c a w h => hQ c a w _ _ h)
 refine p_ 1 32 ?_ (hQ := fun c a w h => hQ c a w _ _ h)
 refine p_ 2 33 ?_ (hQ := fun c a w h => hQ c a w _ _ h)
 refine t2_ 3 34 hHeld ?_ (hQ := fun c a w h => hQ c a w _ _ h)
 refine t2_ 5 36 hHeld ?_ (hQ := fun c a w h => hQ c a w _ _ h)
 refine p_ 6 37 ?_ (hQ := fun c a w h => hQ c a w _ _ h)
 refine p_ 7 38 ?_ (hQ := fun c a w h => hQ c a w _ _ h)
 refine t2_ 8 39 hHeld ?_ (hQ := fun c a w h => hQ c a w _ _ h)
 exact gst_00 (y := (fun i => match i with | 0 => y0 | 1 => y1 | 2 => y2 | 4 => y4 | 5 => y5 | 6 => y6 | 7 => y7 | 8 => y8 | 10 => y10 | 11 => y11 | 12 => y12 | 13 => y13 | 14 => y14 | 15 => y15 | 16 => y16 | 17 => y17 | 18 => y18 | 19 => y19 | 20 => y20 | 21 => y21 | 22 => y22 | 23 => y23 | 24 => y24 | 25 => y25 | 26 => y26 | 27 => y27 | 28 => y28 | 29 => y29 | 30 => y30 | _ => undef)) hq hh hal hel hQ hfin hi
end
theorem goesVC_ {P : Program} {ops : Array Oper} {Q : Exit → Act → World → Prop} {oi : Oper} {N : Option Tmp} {a : Act} {w : World} {K : Act → World → Prop} {f : FuncId} {fn : Func} {c : Operand} {asx : Array Operand} {ts : Array TypeId} {caps : Array Value} (hf : P.funcs[f]? = some fn) (hname : (fn.name == "runtime.NumGoroutine") = false) (hb : fn.body.isSome = true) (args : Array Value)
  (hw : Region.wanted oi (yielded ops a.tmps) = true) (hN : oi.dst = N) (hop : oi.op = .call { callee := .value c, args := asx, argTypes := ts }) (hc : a.eval c = .func (.func f) #[] caps) (hargs : asx.map a.eval ++ caps = args)
  (h : Calls P f args w fun e w' => ∃ v, e = .returned v ∧ K (a.put N v) w') : if Region.wanted oi (yielded ops a.tmps) = true then Oper.wp P oi a w K Q else K (a.put N undef) w := by
 refine call_ f args hw hN ?_ h
 have he := enters_ hf hname hb args w
 unfold execOp
 simp [hop, resolve, Deferred.ofValue, invoke, hc, hargs, he]
def MT (wv uv dv : Value) (k : Nat) : Prop := wv.ownBlock = some k ∨ uv.ownBlock = some k ∨ dv.ownBlock = some k
theorem MetO.retag {w : World} {base q p : Nat} {o o' : Tags} {wv uv dv : Value} {Ba : Nat} {va : Nat → Value} {ws : List Int} {ar : List (List Int)} {up dn : List Int} (h : MetO w base q p o wv uv dv Ba va ws ar up dn) (ho : ∀ k, k < w.heap.size → o' k = o k) : MetO w base q p o' wv uv dv Ba va ws ar up dn :=
 ⟨h.blk, by rw [ho q (hblk_lt h.blk)]; exact h.qtag, h.qlo, Kd.R_reok rfl h.wr (fun k hk => by show o' k = _; rw [ho k (Kd.R_lt h.wr k hk)]; exact h.wr.1 k hk), Kd.R_reok rfl h.ur (fun k hk => by show o' k = _; rw [ho k (Kd.R_lt h.ur k hk)]; exact h.ur.1 k hk), Kd.R_reok rfl h.dr (fun k hk => by show o' k = _; rw [ho k (Kd.R_lt h.dr k hk)]; exact h.dr.1 k hk), h.ra.retag ho⟩
theorem MetO.mt {w : World} {base q p : Nat} {o : Tags} {wv uv dv : Value} {Ba : Nat} {va : Nat → Value} {ws : List Int} {ar : List (List Int)} {up dn : List Int} (h : MetO w base q p o wv uv dv Ba va ws ar up dn) (k : Nat) (hk : MT wv uv dv k) : base ≤ k ∧ k < w.heap.size := by
 rcases hk with hk | hk | hk
 ·exact ⟨Kd.R_base h.wr k hk, Kd.R_lt h.wr k hk⟩
 ·exact ⟨Kd.R_base h.ur k hk, Kd.R_lt h.ur k hk⟩
 ·exact ⟨Kd.R_base h.dr k hk, Kd.R_lt h.dr k hk⟩
structure SetC (w w4 W0 : World) (base q p n b3 b11 Bp B m : Nat) (arcs : List S58) (L R : List Int) (S : HSt) (gA : Option Addr) (gc : Nat) (eA : Option Addr) (ec : Nat) (o : Tags) (wv uv dv : Value) : Prop where
 k3 : w4.heap[b3]? = some (.cells #[.pointer (some ⟨q, 0, none⟩)] 30 (0, 0))
 k11 : w4.heap[b11]? = some (.cells #[.slice (some ⟨Bp, 0, none⟩) m m] 83 (0, 0))
 gb : w4.heap[B]? = some (.cells #[.int .i64 (n : Int), .slice gA arcs.length gc] 24 (0, 0))
 gr : Kd.R k58 58 w4 w.heap.size (fun _ => True) (.slice gA arcs.length gc) arcs
 er : Kd.R k58 58 w4 w.heap.size (fun _ => True) (.slice eA m ec) S.edges
 bp : ∃ cs, w4.heap[Bp]? = some (.cells cs 4 (0, 0))
 lo3 : w.heap.size ≤ b3
 lo11 : w.heap.size ≤ b11
 loB : w.heap.size ≤ B
 loP : w.heap.size ≤ Bp
 hh : HierR W0 p n arcs L R S
 hb : base = W0.heap.size
 h0 : Below base W0 w
 bw : Below w.heap.size w w4
 mt : ∀ k, MT wv uv dv k → base ≤ k ∧ k < w.heap.size
 ot : ∀ k, w.heap.size ≤ k → o k = (0, 0)
 bl : base ≤ w.heap.size
structure SetI (w w4 wr : World) (base q p Bp m : Nat) (o : Tags) (wv uv dv : Value) (Ba : Nat) (va : Nat → Value) (ws : List Int) (ar : List (List Int)) (up dn : List Int) (pd : List Bool) : Prop where
 bel : Bel (fun k => MT wv uv dv k ∨ k = Bp) w4 wr
 met : MetO wr base q p o wv uv dv Ba va ws ar up dn
 pend : Kd.R Kd.bool 4 wr w.heap.size (fun _ => True) (.slice (some ⟨Bp, 0, none⟩) m m) pd
section
variable {w w4 wr wr' W0 : World} {base q p n b3 b11 Bp B m : Nat} {arcs : List S58} {L R : List Int} {S : HSt} {gA : Option Addr} {gc : Nat} {eA : Option Addr} {ec : Nat} {o : Tags} {wv uv dv : Value} {Ba : Nat} {va : Nat → Value} {ws : List Int} {ar : List (List Int)} {up dn : List Int} {pd pd' : List Bool}
theorem SetC.stay (c : SetC w w4 W0 base q p n b3 b11 Bp B m arcs L R S gA gc eA ec o wv uv dv) (h : SetI w w4 wr base q p Bp m o wv uv dv Ba va ws ar up dn pd) {k : Nat} (hk : w.heap.size ≤ k) (hk4 : k < w4.heap.size) (hne : k ≠ Bp) : wr.heap[k]? = w4.heap[k]? :=
 h.bel.block k hk4 (fun x => by
  rcases x with x | x
  ·have := (c.mt k x).2
   omega
  ·exact hne x)
theorem SetC.typ (c : SetC w w4 W0 base q p n b3 b11 Bp B m arcs L R S gA gc eA ec o wv uv dv) {k t : Nat} {cs : Array Value} (hk : w4.heap[k]? = some (.cells cs t (0, 0))) (ht : t ≠ 4) : k ≠ Bp := fun e => by
 obtain ⟨cs2, hp⟩ := c.bp
 rw [e, hp] at hk
 injection hk with hk
 injection hk with _ hk
 exact ht hk.symm
theorem SetC.blk (c : SetC w w4 W0 base q p n b3 b11 Bp B m arcs L R S gA gc eA ec o wv uv dv) (h : SetI w w4 wr base q p Bp m o wv uv dv Ba va ws ar up dn pd) {k t : Nat} {cs : Array Value} (hk : w4.heap[k]? = some (.cells cs t (0, 0))) (ht : t ≠ 4) (hl : w.heap.size ≤ k) : wr.heap[k]? = some (.cells cs t (0, 0)) :=
 (c.stay h hl (hblk_lt hk) (c.typ hk ht)).trans hk
theorem SetC.rows (c : SetC w w4 W0 base q p n b3 b11 Bp B m arcs L R S gA gc eA ec o wv uv dv) (h : SetI w w4 wr base q p Bp m o wv uv dv Ba va ws ar up dn pd) {v : Value} {xs : List S58} (hr : Kd.R k58 58 w4 w.heap.size (fun _ => True) v xs) : Kd.R k58 58 wr w.heap.size (fun _ => True) v xs := by
 obtain ⟨cs, hp⟩ := c.bp
 have h1 := Kd.R_types (Kd.R_bound hr) hp (by decide)
 exact Kd.R_mono (Kd.R_step h1 (fun k hk hlt => c.stay h hk.1.2.1 hlt hk.2)) (fun _ _ => trivial)
theorem SetC.hier (c : SetC w w4 W0 base q p n b3 b11 Bp B m arcs L R S gA gc eA ec o wv uv dv) (h : SetI w w4 wr base q p Bp m o wv uv dv Ba va ws ar up dn pd) : HierR wr p n arcs L R S := by
 have hbl := c.bl
 have h1 : Below base w w4 := ⟨c.bw.os, c.bw.tape, c.bw.output, c.bw.size, fun i hi => c.bw.block i (by omega)⟩
 have h2 : Below base w4 wr := h.bel.out (Nat.le_trans hbl c.bw.size) (fun k hk => by
  rcases hk with hk | hk
  ·exact (c.mt k hk).1
  ·have := c.loP
   omega)
 have h3 := below_tr (below_tr c.h0 h1) h2
 refine c.hh.below ?_
 rw [← c.hb]
 exact h3
theorem SetC.belw (c : SetC w w4 W0 base q p n b3 b11 Bp B m arcs L R S gA gc eA ec o wv uv dv) (h : SetI w w4 wr base q p Bp m o wv uv dv Ba va ws ar up dn pd) : Bel (MT wv uv dv) w wr :=
 ((Bel.refl (MT wv uv dv) w).below c.bw).trans h.bel (fun k hk hT => by
  rcases hT with hT | hT
  ·exact hT
  ·have := c.loP
   omega)
theorem SetI.fresh (h : SetI w w4 wr base q p Bp m o wv uv dv Ba va ws ar up dn pd) (hb : Below wr.heap.size wr wr') : SetI w w4 wr' base q p Bp m o wv uv dv Ba va ws ar up dn pd :=
 ⟨h.bel.below hb, h.met.below hb, Kd.R_below h.pend hb⟩
theorem SetI.mark (c : SetC w w4 W0 base q p n b3 b11 Bp B m arcs L R S gA gc eA ec o wv uv dv) (h : SetI w w4 wr base q p Bp m o wv uv dv Ba va ws ar up dn pd) (hb : Bel (fun k => k = Bp) wr wr') (hp : Kd.R Kd.bool 4 wr' w.heap.size (fun _ => True) (.slice (some ⟨Bp, 0, none⟩) m m) pd') : SetI w w4 wr' base q p Bp m o wv uv dv Ba va ws ar up dn pd' :=
 ⟨h.bel.trans hb (fun k _ hk => .inr hk), h.met.keep hb.size (fun k hk h1 _ => hb.block k hk (fun e => by
  have h2 := c.ot Bp c.loP
  rw [e, h2] at h1
  exact absurd h1 (by decide))), hp⟩
theorem SetI.pendSet (h : SetI w w4 wr base q p Bp m o wv uv dv Ba va ws ar up dn pd) {g : Nat} (i : Nat) (x : Value) (hg : ∃ cs, wr.heap[g]? = some (.cells cs 3 (0, 0))) : Kd.R Kd.bool 4 (wr.setCell ⟨g, i, none⟩ x) w.heap.size (fun _ => True) (.slice (some ⟨Bp, 0, none⟩) m m) pd := by
 obtain ⟨cs, hg⟩ := hg
 exact Kd.R_mono (Kd.R_far (p := ⟨g, i, none⟩) (Kd.R_types h.pend hg (by decide)) (fun k hk => hk.2) x) (fun _ _ => trivial)
theorem SetI.putW (h : SetI w w4 wr base q p Bp m o wv uv dv Ba va ws ar up dn pd) {g c : Nat} (he : wv = .slice (some ⟨g, 0, none⟩) ws.length c) (i : Nat) (x : Int) : SetI w w4 (wr.setCell ⟨g, i, none⟩ (.int .i64 x)) base q p Bp m o wv uv dv Ba va (ws.set i x) ar up dn pd := by
 have hg : wv.ownBlock = some g := by rw [he]; rfl
 exact ⟨h.bel.setCell ⟨g, i, none⟩ _ (.inl (.inl (.inl hg))), h.met.wPut he i x (h.met.wr.1 g hg), h.pendSet i _ (Kd.R_typed h.met.wr g hg)⟩
theorem SetI.putU (h : SetI w w4 wr base q p Bp m o wv uv dv Ba va ws ar up dn pd) {g c : Nat} (he : uv = .slice (some ⟨g, 0, none⟩) up.length c) (i : Nat) (x : Int) : SetI w w4 (wr.setCell ⟨g, i, none⟩ (.int .i64 x)) base q p Bp m o wv uv dv Ba va ws ar (up.set i x) dn pd := by
 have hg : uv.ownBlock = some g := by rw [he]; rfl
 exact ⟨h.bel.setCell ⟨g, i, none⟩ _ (.inl (.inl (.inr (.inl hg)))), h.met.upPut he i x (h.met.ur.1 g hg), h.pendSet i _ (Kd.R_typed h.met.ur g hg)⟩
theorem SetI.putD (h : SetI w w4 wr base q p Bp m o wv uv dv Ba va ws ar up dn pd) {g c : Nat} (he : dv = .slice (some ⟨g, 0, none⟩) dn.length c) (i : Nat) (x : Int) : SetI w w4 (wr.setCell ⟨g, i, none⟩ (.int .i64 x)) base q p Bp m o wv uv dv Ba va ws ar up (dn.set i x) pd := by
 have hg : dv.ownBlock = some g := by rw [he]; rfl
 exact ⟨h.bel.setCell ⟨g, i, none⟩ _ (.inl (.inl (.inr (.inr hg)))), h.met.dnPut he i x (h.met.dr.1 g hg), h.pendSet i _ (Kd.R_typed h.met.dr g hg)⟩
end
def wsTo (ws al vs : List Int) : Nat → List Int
 | 0 => ws
 | k + 1 => (wsTo ws al vs k).set (al.getD k 0).toNat (vs.getD k 0)
def pdTo (n : Nat) (R : List Int) (S : HSt) (arcs : List S58) (al : List Int) : Nat → List Bool
 | 0 => List.replicate S.edges.length false
 | k + 1 => markS n R S (pdTo n R S arcs al k) (rd_T58 arcs (al.getD k 0)).f0 (rd_T58 arcs (al.getD k 0)).f1
structure SSt where
 up : List Int
 dn : List Int
 pd : List Bool
 ch : Nat
def upMark1 (n : Nat) (R : List Int) (S : HSt) (e : Nat) (pd : List Bool) (f : Int) : List Bool := if f = (e : Int) then pd else markS n R S pd (rd_T58 S.edges (e : Int)).f1 (rd_T58 S.edges f).f1
def upMark (n : Nat) (R : List Int) (S : HSt) (e : Nat) (pd : List Bool) (fs : List Int) : List Bool := fs.foldl (upMark1 n R S e) pd
def setE (n : Nat) (arcs : List S58) (R : List Int) (S : HSt) (ws : List Int) (ar : List (List Int)) (st : SSt) (e : Nat) : SSt :=
 if st.pd.getD e false = true then
  (if (weightsS n arcs R S ws ar st.up st.dn e).1 = st.up.getD e 0 ∧ (weightsS n arcs R S ws ar st.up st.dn e).2 = st.dn.getD e 0 then st
    else ⟨st.up.set e (weightsS n arcs R S ws ar st.up st.dn e).1, st.dn.set e (weightsS n arcs R S ws ar st.up st.dn e).2, upMark n R S e st.pd (upS n S (rd_T58 S.edges (e : Int)).f0), st.ch + 1⟩)
 else st
def setTo (n : Nat) (arcs : List S58) (R : List Int) (S : HSt) (ws : List Int) (ar : List (List Int)) (st : SSt) : Nat → SSt
 | 0 => st
 | k + 1 => setE n arcs R S ws ar (setTo n arcs R S ws ar st k) k
end Go.Proofs.Ytfnophaiamkmpaa.Print
