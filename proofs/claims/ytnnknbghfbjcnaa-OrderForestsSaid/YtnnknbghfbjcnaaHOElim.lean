/- The call of (order.neighbours).eliminate. -/
import Derived.Test.YtnnknbghfbjcnaaHOModel
import Derived.Test.YtnnknbghfbjcnaaHXShort
namespace Go.Proofs.Ytnnknbghfbjcnaa.Print
open Go.RowKit Go.Proofs.YtnnknbghfbjcnaaW.PrintWords Go.Proofs.YtnnknbghfbjcnaaW.PrintLast Go.Proofs.YtnnknbghfbjcnaaW.PrintMore
set_option linter.unusedVariables false
set_option linter.unusedSimpArgs false

theorem zeroB_ (w : World) : (zeroValue 4).run Try.prog w = .ok (Value.bool false) w := by kernel_rfl
theorem iKey : KeyKind Try.prog 3 (Value.int .i64) := intKey Try.underlying3
theorem iDel (k : Int) (w : World) : (Instr.checkKey true 10000 3 (Value.int .i64 k)).run Try.prog w = .ok () w := iKey.check true k w
/-- The blocks that an elimination writes. -/
def NbT (B : Nat) (bs : Nat → Nat) (n : Nat) (k : Nat) : Prop := k = B ∨ ∃ i, i < n ∧ k = bs i

set_option maxHeartbeats 1600000 in
set_option maxRecDepth 100000 in
theorem eliminate.calls (G : Nbs) (vn : Nat) (base B c : Nat) (bs : Nat → Nat) (w : World) (h : NbIs w base B bs G) (hc : G.length ≤ c) (hbig : G.length ≤ 1048576) (hv : Alive G vn) (hl : ∀ x ∈ kOf G vn, Alive G x) (hn : ¬ (vn : Int) ∈ kOf G vn) (hnd : (kOf G vn).Nodup) :
    Calls Try.prog 46 #[.slice (some ⟨B, 0, none⟩) G.length c, .int .i64 vn] w fun e w' => e = .returned (.int .i64 (elim G vn).2) ∧ NbIs w' base B bs (elim G vn).1 ∧ Bel (NbT B bs G.length) w w' := by
  have HN := Aside0.mk h
  have hvl : vn < G.length := by have := hv.2.1; simpa using this
  have hcv : w.cell? ⟨B, vn, none⟩ = some (.map (some (bs vn))) := by simpa using h.cellOf hv
  have HM : Aside0 (MapIs (Value.int .i64) Value.bool w (bs vn) (kmap (kOf G vn))) := ⟨by simpa using h.mapOf hv⟩
  have HV := Aside0.mk hv
  have HL := Aside0.mk hl
  have HV2 := Aside0.mk hn
  have HND := Aside0.mk hnd
  clear h hv hl hn hnd
  go_enter Try.func46, Try.ntmps46
  go_wp2_with (refine wp_range_map Try.underlying50 rfl _ rfl HM.out rfl (fun w1 HR HB1 HS1 => ?_); simp only [putW])
  have HN1 := Aside0.mk (HN.out.below HB1.out)
  clear hcv
  go_loopw [5] (fun l wr => ∃ is : List Nat, Aside0 (RangeIs (Value.int .i64) Value.bool wr (bs vn) w.heap.size (kmap (kOf G vn)) is) ∧ Aside0 (is.Nodup ∧ ∀ i ∈ is, i < (kOf G vn).length) ∧ Aside0 (Kd.R (Kd.int .i64) 3 wr w.heap.size (fun k => k ≠ w.heap.size) l (is.map fun i => (kOf G vn).getD i 0)) ∧
    Aside0 (NbIs wr base B bs G) ∧ Aside0 (Below w.heap.size w wr) ∧ Aside0 (w.heap.size < wr.heap.size)) (fun l _ => (kOf G vn).length - lenV l)
  case atStart =>
    exact ⟨[], HR, ⟨List.nodup_nil, by simp⟩, ⟨Kd.R_nil _ _ _ _ _⟩, HN1, HB1, ⟨by rw [HS1.out]; omega⟩⟩
  case round =>
    obtain ⟨is, HI, HD, HO, HNr, HBr, HSr⟩ := hrel
    have HX : ∃ xs, Aside0 (xs = is.map fun i => (kOf G vn).getD i 0) := ⟨_, ⟨rfl⟩⟩
    obtain ⟨xs, HX⟩ := HX
    rw [← HX.out] at HO
    obtain ⟨A5, c5, rfl, hc5, hr5⟩ := Kd.R_reads HO.out
    have HC5 := Aside0.mk hr5
    clear hr5
    have HLT : Aside0 (xs.length ≤ (kOf G vn).length) := ⟨by rw [HX.out, List.length_map]; exact nodup_le _ _ HD.out.1 HD.out.2⟩
    have HK := Aside0.mk (keys_le HND.out fun x hx => ⟨(HL.out x hx).1, (HL.out x hx).2.1⟩)
    go_wp2_with (first
      | (refine wp_next_map HI.out rfl _ rfl rfl (fun HALL => ?_) (fun i k v w2 HG1 HG2 HG3 HG4 HG5 => ?_))
      | (refine wp_entry_map rfl _ rfl rfl HG5.out ?_)
      | (refine Kd.R_append (Kd.int .i64) (w0 := w) w.heap.size (by rfl) (.tmp 21) (.tmp 23) 31 3 (.int .i64 0) 8 rfl Try.underlying31 info3 rfl (by decide) (by omega) (.slice A5 xs.length c5) xs k [.int .i64 k] (fun k => k ≠ w.heap.size) (fun _ => False) rfl rfl ?aP (fun _ hk => hk.elim) ?aF ?aO ?aB ?aS ?aL ?_
         (case aP => exact rfl)
         (case aF => exact (fun k_ hk => by have := HSr.out; have := HG4.out; omega))
         (case aO => exact Kd.R_step HO.out (fun k_ hk hlt => HG3.out.block k_ hlt (fun e => hk (Option.some.inj e))))
         (case aB => exact HBr.out.grown HG3.out (Nat.le_of_lt HSr.out) (fun j hj => by injection hj with hj; omega))
         (case aS => have := HSr.out; have := HG4.out; omega)
         (case aL => have := HK.out; have := HLT.out; omega)
         intro v1 w3 ho hb hg hat
         have HO3 := Aside0.mk ho
         have HB3 := Aside0.mk hb
         have HG6 := Aside0.mk hg
         clear ho hb hg hat))
    · refine (sets_Of.calls _ _ xs (setOf (kOf G vn)) wr HC5.out hc5 (by unfold sets_Of.f; rw [if_pos (by have := HK.out; have := HLT.out; omega), HX.out, setOf_places HD.out.2 (fun i hi => HALL.out i (by rw [kmap_len]; exact hi))])).mono ?_
      rintro e w4 ⟨v4, rfl, ho4, hb4⟩
      have HN4 := Aside0.mk (HNr.out.below hb4)
      have HE4 := Aside0.mk (((Bel.refl (NbT B bs G.length) w).below HBr.out).below hb4)
      have HS4 := Aside0.mk (Nat.lt_of_lt_of_le HSr.out hb4.size)
      have HL0 := Aside0.mk (show ∃ L, setOf (kOf G vn) = L from ⟨_, rfl⟩)
      obtain ⟨L, HSL⟩ := HL0.out
      rw [HSL] at ho4
      replace HSL := Aside0.mk HSL
      obtain ⟨A7, c7, rfl, hc7, hr7⟩ := Kd.R_reads ho4
      have HO7 := Aside0.mk (Kd.R_lower ho4 (Nat.le_of_lt HSr.out))
      clear ho4 hb4 HL0
      rcases cells_of_C hr7 with ⟨_, rfl⟩ | ⟨h0, b7, o7, rfl, hc⟩
      · clear hr7
        go_wp2
        have HE := Aside0.mk (show elim G vn = (G.set (vn : Int).toNat none, 0) by unfold elim; rw [HSL.out]; rfl)
        have hfv4 : w4.frozen? ⟨B, vn, none⟩ = false := HN4.out.frz vn
        have hcv4 : w4.cell? ⟨B, vn, none⟩ = some (.map (some (bs vn))) := by simpa using HN4.out.cellOf HV.out
        go_loopw [7, 29] (fun f i wr => f = .int .i64 0 ∧ i = .int .i64 0 ∧ wr = w4) (fun _ _ _ => 0)
        case atStart => exact ⟨rfl, rfl, rfl⟩
        case round =>
          obtain ⟨rfl, rfl, rfl⟩ := hrel
          go_wp2
          go_ret
          rw [HE.out]
          exact ⟨rfl, by simpa using HN4.out.kill HV.out, HE4.out.setCell _ _ (.inl (.inl rfl))⟩
      · have HC7 := Aside0.mk hc
        clear hr7 hc
        have HE := Aside0.mk (show elim G vn = ((elimGo vn [] L G 0).1.set (vn : Int).toNat none, (elimGo vn [] L G 0).2) by unfold elim; rw [HSL.out])
        have HLA : Aside0 (∀ j, j < L.length → ∃ un : Nat, L.getD j 0 = (un : Int) ∧ Alive G un ∧ un ≠ vn) := ⟨fun j hj => by
          have hm : L.getD j 0 ∈ kOf G vn := by
            rw [← mem_setOf, HSL.out]
            simp [List.getElem?_eq_getElem hj]
          have ha := HL.out _ hm
          obtain ⟨un, hun⟩ := Int.eq_ofNat_of_zero_le ha.1
          rw [hun] at ha hm
          exact ⟨un, hun, ha, fun e => HV2.out (by rw [e] at hm; exact hm)⟩⟩
        have HLN : Aside0 (L.length ≤ G.length) := ⟨by
          have h1 := length_setOf (kOf G vn)
          rw [HSL.out] at h1
          have := keys_le HND.out fun x hx => ⟨(HL.out x hx).1, (HL.out x hx).2.1⟩
          omega⟩
        have HB7 : Aside0 (w.heap.size ≤ b7) := ⟨Kd.R_base HO7.out b7 rfl⟩
        have HTOP := Aside0.mk HN.out.top
        have hLb : L.length ≤ 1048576 := by have := HLN.out; omega
        go_wp2
        go_loopw [7, 29] (fun f i wr => ∃ (k : Nat) (Gk : Nbs) (fk : Int), f = .int .i64 fk ∧ i = .int .i64 k ∧ k ≤ L.length ∧ Aside0 (elimGo vn (L.take k) (L.drop k) Gk fk = elimGo vn [] L G 0) ∧ Aside0 (NbIs wr base B bs Gk) ∧ Aside0 (Gk.length = G.length ∧ ∀ x, Alive Gk x ↔ Alive G x) ∧
          Aside0 (∀ j, j < L.length → wr.cell? ⟨b7, o7 + j, none⟩ = some (.int .i64 (L.getD j 0))) ∧ Aside0 (Bel (NbT B bs G.length) w wr)) (fun _ i _ => L.length - (intOf i).toNat)
        case atStart => exact ⟨0, G, 0, rfl, rfl, Nat.zero_le _, ⟨rfl⟩, HN4, ⟨rfl, fun x => Iff.rfl⟩, HC7, HE4⟩
        case round =>
          clear HN4 HC7 HE4
          obtain ⟨k, Gk, fk, rfl, rfl, hk, HG, HNk, HA, HC, HEk⟩ := hrel
          by_cases hlt : k < L.length
          · obtain ⟨un, hun, hau, hne⟩ := HLA.out k hlt
            have HAG := Aside0.mk hau
            have HAk := Aside0.mk ((HA.out.2 un).2 hau)
            have hul : un < G.length := by have := hau.2.1; simpa using this
            have hcell : wr.cell? ⟨b7, o7 + k, none⟩ = some (.int .i64 (un : Int)) := by rw [← hun]; exact HC.out k hlt
            have hcu : wr.cell? ⟨B, un, none⟩ = some (.map (some (bs un))) := by simpa using HNk.out.cellOf HAk.out
            have HMU := Aside0.mk (show MapIs (Value.int .i64) Value.bool wr (bs un) (kmap (kOf Gk un)) by simpa using HNk.out.mapOf HAk.out)
            have HUN := Aside0.mk hun
            have HGO := Aside0.mk (show ∀ Gj fj, elimIn un (L.take k) (kSet Gk un ((kOf Gk un).erase vn)) fk = (Gj, fj) → elimGo vn (L.take (k + 1)) (L.drop (k + 1)) Gj fj = elimGo vn [] L G 0 from fun Gj fj h => by
              rw [← HG.out, List.drop_eq_getElem_cons hlt, List.take_succ_eq_append_getElem hlt]
              have h1 : L[k] = (un : Int) := by rw [← hun]; simp [List.getElem?_eq_getElem hlt]
              rw [h1]
              rw [elimGo_cons, h])
            clear hau hne hun
            go_wp2_with (refine wp_delete_map iKey iDel Try.underlying50 rfl _ _ rfl rfl HMU.out (vn : Int) rfl rfl (fun w5 HMD HGD => ?_))
            clear hcell hcu
            have HM5 := Aside0.mk (show MapIs (Value.int .i64) Value.bool w5 (bs un) (kmap ((kOf Gk un).erase vn)) by rw [← kmap_del]; exact HMD.out)
            have HN5 := Aside0.mk (HNk.out.upd HAk.out ((kOf Gk un).erase vn) (by simpa using HGD.out) (by simpa using HM5.out))
            have HE5 := Aside0.mk (HEk.out.grown HGD.out (fun j hj => .inl (.inr ⟨un, hul, (Option.some.inj hj).symm⟩)))
            have HC5' : Aside0 (∀ j, j < L.length → w5.cell? ⟨b7, o7 + j, none⟩ = some (.int .i64 (L.getD j 0))) := ⟨fun j hj => cell_grown HGD.out (HC.out j hj) (fun e => by
              have h1 := HN.out.tops un hul
              have h2 := HB7.out
              have h3 : b7 = bs un := Option.some.inj e
              omega)⟩
            generalize hG1 : kSet Gk un ((kOf Gk un).erase vn) = G1 at HN5 HGO
            have HA1 : Aside0 (G1.length = G.length ∧ ∀ x, Alive G1 x ↔ Alive G x) := ⟨by
              subst hG1
              exact ⟨by rw [kSet_length]; exact HA.out.1, fun x => (kSet_alive HAk.out _).trans (HA.out.2 x)⟩⟩
            clear hG1
            go_loopw [7, 43] (fun f i wr => ∃ (j : Nat) (Gj : Nbs) (fj : Int), f = .int .i64 fj ∧ i = .int .i64 j ∧ j ≤ k ∧ Aside0 (elimIn un ((L.take k).drop j) Gj fj = elimIn un (L.take k) G1 fk) ∧ Aside0 (NbIs wr base B bs Gj) ∧ Aside0 (Gj.length = G.length ∧ ∀ x, Alive Gj x ↔ Alive G x) ∧
              Aside0 (∀ j, j < L.length → wr.cell? ⟨b7, o7 + j, none⟩ = some (.int .i64 (L.getD j 0))) ∧ Aside0 (Bel (NbT B bs G.length) w wr)) (fun _ i _ => k - (intOf i).toNat)
            case atStart => exact ⟨0, G1, fk, rfl, rfl, Nat.zero_le _, ⟨rfl⟩, HN5, HA1, HC5', HE5⟩
            case round =>
              clear HNk HC HEk HMU HMD HGD HM5 HN5 HE5 HC5' HG HA HAk
              obtain ⟨j, Gj, fj, rfl, rfl, hj, HG, HNj, HA, HC, HEj⟩ := hrel
              by_cases hjk : j < k
              · obtain ⟨xn, hxn, hax, hnx⟩ := HLA.out j (by omega)
                have hxl : xn < G.length := by have := hax.2.1; simpa using this
                have HAU := Aside0.mk ((HA.out.2 un).2 HAG.out)
                have HAX := Aside0.mk ((HA.out.2 xn).2 hax)
                have hcell : wr.cell? ⟨b7, o7 + j, none⟩ = some (.int .i64 (xn : Int)) := by rw [← hxn]; exact HC.out j (by omega)
                have hcu : wr.cell? ⟨B, un, none⟩ = some (.map (some (bs un))) := by simpa using HNj.out.cellOf HAU.out
                have hcx : wr.cell? ⟨B, xn, none⟩ = some (.map (some (bs xn))) := by simpa using HNj.out.cellOf HAX.out
                have HMU := Aside0.mk (show MapIs (Value.int .i64) Value.bool wr (bs un) (kmap (kOf Gj un)) by simpa using HNj.out.mapOf HAU.out)
                have HGI := HG.out
                have hdr : (L.take k).drop j = (xn : Int) :: (L.take k).drop (j + 1) := by
                  have hl : j < (L.take k).length := by rw [List.length_take]; omega
                  rw [List.drop_eq_getElem_cons hl]
                  congr 1
                  rw [List.getElem_take, ← hxn]
                  simp [List.getElem?_eq_getElem (show j < L.length by omega)]
                rw [hdr] at HGI
                rw [elimIn_cons] at HGI
                clear hax hnx hxn hdr
                by_cases hin : (xn : Int) ∈ kOf Gj un
                · rw [if_pos hin] at HGI
                  have HGJ := Aside0.mk HGI
                  have hg : Aside0 ((mget (kmap (kOf Gj un)) (xn : Int)).getD false = true) := ⟨by rw [kmap_get, if_pos hin]; rfl⟩
                  clear HGI hin
                  go_wp2_with (refine wp_lookup_map iKey Try.underlying50 false zeroB_ rfl _ _ false rfl HMU.out (xn : Int) rfl rfl (.bool true) (by rw [hg.out]; rfl) ?_)
                  go_roundw
                  case rel => exact ⟨j + 1, Gj, fj, rfl, by go_num, by omega, HGJ, HNj, HA, HC, HEj⟩
                  case measure => simp [intOf]; omega
                · rw [if_neg hin] at HGI
                  have HGJ := Aside0.mk HGI
                  have hg : Aside0 ((mget (kmap (kOf Gj un)) (xn : Int)).getD false = false) := ⟨by rw [kmap_get, if_neg hin]; rfl⟩
                  have HNE : Aside0 (B ≠ bs un ∧ B ≠ bs xn) := ⟨fun e => HN.out.ne un hul e.symm, fun e => HN.out.ne xn hxl e.symm⟩
                  clear HGI hin
                  go_upto_region 17 with (refine wp_lookup_map iKey Try.underlying50 false zeroB_ rfl _ _ false rfl HMU.out (xn : Int) rfl rfl (.bool false) (by rw [hg.out]; rfl) ?_)
                  have hcu2 : wr.drew.cell? ⟨B, un, none⟩ = some (.map (some (bs un))) := hcu
                  have hcx2 : wr.drew.cell? ⟨B, xn, none⟩ = some (.map (some (bs xn))) := hcx
                  clear hcu hcx hcell
                  refine start_ (n := 16) (S := fun w' => w'.cell? ⟨B, un, none⟩ = some (.map (some (bs un))) ∧ w'.cell? ⟨B, xn, none⟩ = some (.map (some (bs xn)))) (ds := []) #[yF,yF,yF,yF,yF,yF,yF,yF,yF,yF,yF,yF,yF,yF,yF,yF] (by kernel_rfl) rfl rfl ⟨hcu2, hcx2⟩ (fun hHeld => ?_)
                  refine pure_ (i := 0) (N := some 56) (v := ?_) (a' := ?_) #[yT,yF,yF,yF,yF,yF,yF,yF,yF,yF,yF,yF,yF,yF,yF,yF] rfl rfl (by kernel_rfl) (fun _ _ _ h => h) (Or.inl ⟨by rfl, ?_⟩) ?_ ?_; rotate_left; (·intro w'; go_simp; with_reducible rfl); rotate_left; (·simp only [putW]; rfl)
                  refine pure_ (i := 1) (N := some 57) (v := ?_) (a' := ?_) #[yT,yT,yF,yF,yF,yF,yF,yF,yF,yF,yF,yF,yF,yF,yF,yF] rfl rfl (by kernel_rfl) (fun _ _ _ h => h) (Or.inl ⟨by rfl, ?_⟩) ?_ ?_; rotate_left; (·intro w'; go_simp; with_reducible rfl); rotate_left; (·simp only [putW]; rfl)
                  refine pure_ (i := 2) (N := some 58) (v := ?_) (a' := ?_) #[yT,yT,yT,yF,yF,yF,yF,yF,yF,yF,yF,yF,yF,yF,yF,yF] rfl rfl (by kernel_rfl) (fun _ _ _ h => h) (Or.inl ⟨by rfl, ?_⟩) ?_ ?_; rotate_left; (·intro w'; go_simp; with_reducible rfl); rotate_left; (·simp only [putW]; rfl)
                  refine take_ (i := 3) (N := some 59) (v := ?_) (a' := ?_) #[yT,yT,yT,yT,yF,yF,yF,yF,yF,yF,yF,yF,yF,yF,yF,yF] rfl rfl (by kernel_rfl) (fun _ _ _ h => h) (Or.inl ⟨by rfl, ?_⟩) hHeld ?_ ?_; rotate_left; (·rintro w' ⟨s0, s1⟩; go_simp; with_reducible rfl); rotate_left; (·simp only [putW]; rfl)
                  refine pure_ (i := 4) (N := some 60) (v := ?_) (a' := ?_) #[yT,yT,yT,yT,yT,yF,yF,yF,yF,yF,yF,yF,yF,yF,yF,yF] rfl rfl (by kernel_rfl) (fun _ _ _ h => h) (Or.inl ⟨by rfl, ?_⟩) ?_ ?_; rotate_left; (·intro w'; go_simp; with_reducible rfl); rotate_left; (·simp only [putW]; rfl)
                  refine pure_ (i := 5) (N := some 61) (v := ?_) (a' := ?_) #[yT,yT,yT,yT,yT,yT,yF,yF,yF,yF,yF,yF,yF,yF,yF,yF] rfl rfl (by kernel_rfl) (fun _ _ _ h => h) (Or.inl ⟨by rfl, ?_⟩) ?_ ?_; rotate_left; (·intro w'; go_simp; with_reducible rfl); rotate_left; (·simp only [putW]; rfl)
                  refine pure_ (i := 6) (N := some 62) (v := ?_) (a' := ?_) #[yT,yT,yT,yT,yT,yT,yT,yF,yF,yF,yF,yF,yF,yF,yF,yF] rfl rfl (by kernel_rfl) (fun _ _ _ h => h) (Or.inl ⟨by rfl, ?_⟩) ?_ ?_; rotate_left; (·intro w'; go_simp; with_reducible rfl); rotate_left; (·simp only [putW]; rfl)
                  refine pure_ (i := 7) (N := some 63) (v := ?_) (a' := ?_) #[yT,yT,yT,yT,yT,yT,yT,yT,yF,yF,yF,yF,yF,yF,yF,yF] rfl rfl (by kernel_rfl) (fun _ _ _ h => h) (Or.inl ⟨by rfl, ?_⟩) ?_ ?_; rotate_left; (·intro w'; go_simp; with_reducible rfl); rotate_left; (·simp only [putW]; rfl)
                  refine take_ (i := 8) (N := some 64) (v := ?_) (a' := ?_) #[yT,yT,yT,yT,yT,yT,yT,yT,yT,yF,yF,yF,yF,yF,yF,yF] rfl rfl (by kernel_rfl) (fun _ _ _ h => h) (Or.inl ⟨by rfl, ?_⟩) hHeld ?_ ?_; rotate_left; (·rintro w' ⟨s0, s1⟩; go_simp; with_reducible rfl); rotate_left; (·simp only [putW]; rfl)
                  refine pure_ (i := 9) (N := some 65) (v := ?_) (a' := ?_) #[yT,yT,yT,yT,yT,yT,yT,yT,yT,yT,yF,yF,yF,yF,yF,yF] rfl rfl (by kernel_rfl) (fun _ _ _ h => h) (Or.inl ⟨by rfl, ?_⟩) ?_ ?_; rotate_left; (·intro w'; go_simp; with_reducible rfl); rotate_left; (·simp only [putW]; rfl)
                  refine one_ (i := 10) (N := some 66) #[yT,yT,yT,yT,yT,yT,yT,yT,yT,yT,yT,yF,yF,yF,yF,yF] rfl rfl (by kernel_rfl) (by decide) (fun K hK => ?_)
                  refine step_mapEntry iKey Try.underlying50 (by rfl) rfl _ _ rfl (HMU.out) false zeroB_ (xn : Int) rfl rfl (fun wa1 stamp1 v01 HEN1 HGA1 => ?_)
                  refine hK.out _ _ ⟨cell_grown HGA1.out hHeld.1 (fun e => HNE.out.1 (Option.some.inj e)), cell_grown HGA1.out hHeld.2 (fun e => HNE.out.1 (Option.some.inj e))⟩ (fun hHeld => ?_)
                  clear hK K
                  refine norm_ (a' := ?_) ?_ ?_; rotate_left; (·show Act.put _ (some 66) _ = _; simp only [putW]; rfl)
                  refine pure_ (i := 11) (N := some 67) (v := ?_) (a' := ?_) #[yT,yT,yT,yT,yT,yT,yT,yT,yT,yT,yT,yT,yF,yF,yF,yF] rfl rfl (by kernel_rfl) (fun _ _ _ h => h) (Or.inl ⟨by rfl, ?_⟩) ?_ ?_; rotate_left; (·intro w'; go_simp; with_reducible rfl); rotate_left; (·simp only [putW]; rfl)
                  refine one_ (i := 12) (N := none) #[yT,yT,yT,yT,yT,yT,yT,yT,yT,yT,yT,yT,yT,yF,yF,yF] rfl rfl (by kernel_rfl) (by decide) (fun K hK => ?_)
                  refine step_entryStore (by rfl) rfl _ _ _ rfl HEN1.out true rfl rfl rfl (fun wb1 HMB1 HGB1 => ?_)
                  refine hK.out _ _ ⟨cell_grown HGB1.out hHeld.1 (fun e => HNE.out.1 (Option.some.inj e)), cell_grown HGB1.out hHeld.2 (fun e => HNE.out.1 (Option.some.inj e))⟩ (fun hHeld => ?_)
                  clear hK K
                  have HN8 := Aside0.mk (NbIs.upd2 HNj.out.drew HAU.out HGA1.out HEN1.out.map HGB1.out HMB1.out)
                  have HMX2 := Aside0.mk (HN8.out.mapOf ((kSet_alive HAU.out _).2 HAX.out))
                  refine one_ (i := 13) (N := some 68) #[yT,yT,yT,yT,yT,yT,yT,yT,yT,yT,yT,yT,yT,yT,yF,yF] rfl rfl (by kernel_rfl) (by decide) (fun K hK => ?_)
                  refine step_mapEntry iKey Try.underlying50 (by rfl) rfl _ _ rfl (HMX2.out) false zeroB_ (un : Int) rfl rfl (fun wa2 stamp2 v02 HEN2 HGA2 => ?_)
                  refine hK.out _ _ ⟨cell_grown HGA2.out hHeld.1 (fun e => HNE.out.2 (Option.some.inj e)), cell_grown HGA2.out hHeld.2 (fun e => HNE.out.2 (Option.some.inj e))⟩ (fun hHeld => ?_)
                  clear hK K
                  refine norm_ (a' := ?_) ?_ ?_; rotate_left; (·show Act.put _ (some 68) _ = _; simp only [putW]; rfl)
                  refine pure_ (i := 14) (N := some 69) (v := ?_) (a' := ?_) #[yT,yT,yT,yT,yT,yT,yT,yT,yT,yT,yT,yT,yT,yT,yT,yF] rfl rfl (by kernel_rfl) (fun _ _ _ h => h) (Or.inl ⟨by rfl, ?_⟩) ?_ ?_; rotate_left; (·intro w'; go_simp; with_reducible rfl); rotate_left; (·simp only [putW]; rfl)
                  refine one_ (i := 15) (N := none) #[yT,yT,yT,yT,yT,yT,yT,yT,yT,yT,yT,yT,yT,yT,yT,yT] rfl rfl (by kernel_rfl) (by decide) (fun K hK => ?_)
                  refine step_entryStore (by rfl) rfl _ _ _ rfl HEN2.out true rfl rfl rfl (fun wb2 HMB2 HGB2 => ?_)
                  refine hK.out _ _ ⟨cell_grown HGB2.out hHeld.1 (fun e => HNE.out.2 (Option.some.inj e)), cell_grown HGB2.out hHeld.2 (fun e => HNE.out.2 (Option.some.inj e))⟩ (fun hHeld => ?_)
                  clear hK K
                  refine done_ (by kernel_rfl) ?_
                  have HN9 := Aside0.mk (show NbIs wb2 base B bs (kLink Gj un xn) from HN8.out.upd2 ((kSet_alive HAU.out _).2 HAX.out) HGA2.out HEN2.out.map HGB2.out HMB2.out)
                  have HT1 : Aside0 (∀ k_, some (bs un) = some k_ → NbT B bs G.length k_ ∨ w.heap.size ≤ k_) := ⟨fun k_ hk => .inl (.inr ⟨un, hul, (Option.some.inj hk).symm⟩)⟩
                  have HT2 : Aside0 (∀ k_, some (bs xn) = some k_ → NbT B bs G.length k_ ∨ w.heap.size ≤ k_) := ⟨fun k_ hk => .inl (.inr ⟨xn, hxl, (Option.some.inj hk).symm⟩)⟩
                  have HE9 := Aside0.mk ((((HEj.out.drew.grown HGA1.out HT1.out).grown HGB1.out HT1.out).grown HGA2.out HT2.out).grown HGB2.out HT2.out)
                  have HNB : Aside0 (b7 ≠ bs un ∧ b7 ≠ bs xn) := ⟨by
                    have h1 := HN.out.tops un hul
                    have h2 := HN.out.tops xn hxl
                    have h3 := HB7.out
                    exact ⟨by omega, by omega⟩⟩
                  have HC9 : Aside0 (∀ j, j < L.length → wb2.cell? ⟨b7, o7 + j, none⟩ = some (.int .i64 (L.getD j 0))) := ⟨fun j hj =>
                    cell_grown HGB2.out (cell_grown HGA2.out (cell_grown HGB1.out (cell_grown HGA1.out (show wr.drew.cell? _ = _ from HC.out j hj) (fun e => HNB.out.1 (Option.some.inj e))) (fun e => HNB.out.1 (Option.some.inj e))) (fun e => HNB.out.2 (Option.some.inj e))) (fun e => HNB.out.2 (Option.some.inj e))⟩
                  have HA9 : Aside0 ((kLink Gj un xn).length = G.length ∧ ∀ x, Alive (kLink Gj un xn) x ↔ Alive G x) := ⟨⟨by rw [kLink_length]; exact HA.out.1, fun x => (kLink_alive HAU.out HAX.out).trans (HA.out.2 x)⟩⟩
                  clear hHeld hcu2 hcx2
                  go_wp2
                  go_roundw
                  case rel => exact ⟨j + 1, _, _, rfl, by go_num, by omega, HGJ, HN9, HA9, HC9, HE9⟩
                  case measure => simp [intOf]; omega
              · have hj2 : j = k := by omega
                have HGI := HG.out
                have hdr : (L.take k).drop j = [] := by rw [List.drop_eq_nil_iff, List.length_take]; omega
                rw [hdr] at HGI
                have HGJ := Aside0.mk (HGO.out Gj fj HGI.symm)
                clear HGI hdr
                subst hj2
                go_wp2
                go_roundw
                case rel => exact ⟨j + 1, Gj, fj, rfl, by go_num, by omega, HGJ, HNj, HA, HC, HEj⟩
                case measure => simp [intOf]; omega
          · have hk2 : k = L.length := by omega
            have HGI := HG.out
            rw [hk2, List.drop_length] at HGI
            have HGJ := Aside0.mk (show elimGo vn [] L G 0 = (Gk, fk) from HGI.symm)
            have HAV := Aside0.mk ((HA.out.2 vn).2 HV.out)
            have hvl2 : vn < Gk.length := by rw [HA.out.1]; exact hvl
            have hfv4 : wr.frozen? ⟨B, vn, none⟩ = false := HNk.out.frz vn
            have hcv4 : wr.cell? ⟨B, vn, none⟩ = some (.map (some (bs vn))) := by simpa using HNk.out.cellOf HAV.out
            clear HGI
            subst hk2
            go_wp2
            go_ret
            rw [HE.out, HGJ.out]
            exact ⟨rfl, by simpa using HNk.out.kill HAV.out, HEk.out.setCell _ _ (.inl (.inl rfl))⟩
    · have HF3 : Aside0 (∀ k_, (Value.slice A5 xs.length c5).ownBlock = some k_ → w.heap.size < k_) := ⟨fun k_ hk => by
        have h1 := Kd.R_base HO.out k_ hk
        have h2 := HO.out.1 k_ hk
        omega⟩
      obtain ⟨hi, hk⟩ := kmap_at HG1.out.1
      have HIS : Aside0 (xs ++ [k] = (is ++ [i]).map fun i => (kOf G vn).getD i 0) := ⟨by rw [HX.out, hk, List.map_append]; rfl⟩
      have HTOP := Aside0.mk HN.out.top
      go_roundw
      case rel =>
        refine ⟨is ++ [i], ⟨HG2.out.grown HG6.out (fun e => ?_) (fun e => ?_)⟩, ⟨?_, ?_⟩, ⟨by rw [← HIS.out]; exact HO3.out⟩, ⟨(HNr.out.grown HG3.out (fun e => ?_) (fun j hj e => ?_)).grown HG6.out (fun e => ?_) (fun j hj e => ?_)⟩, HB3, ⟨?_⟩⟩
        · have h1 := HF3.out _ e.symm
          have h2 := HN.out.tops vn hvl
          omega
        · have h1 := HF3.out _ e.symm
          omega
        · rw [List.nodup_append]
          exact ⟨HD.out.1, by simp, fun a ha b hb => by simp at hb; subst hb; rintro rfl; exact HG1.out.2 ha⟩
        · intro j hj
          rcases List.mem_append.1 hj with hj | hj
          · exact HD.out.2 j hj
          · simp at hj
            omega
        · injection e with e
          have := HTOP.out
          omega
        · injection e with e
          have := HN.out.tops j hj
          omega
        · have h1 := HF3.out _ e.symm
          have := HTOP.out
          omega
        · have h1 := HF3.out _ e.symm
          have h2 := HN.out.tops j hj
          omega
        · have h1 := HG4.out
          have h2 := HSr.out
          have h3 := HG6.out.size
          omega
      case measure =>
        obtain ⟨A9, c9, rfl⟩ := Kd.R_slice HO3.out
        have h1 : xs.length < (kOf G vn).length := by
          have h2 := nodup_le (kOf G vn).length (is ++ [i]) (by
            rw [List.nodup_append]
            exact ⟨HD.out.1, by simp, fun a ha b hb => by simp at hb; subst hb; rintro rfl; exact HG1.out.2 ha⟩) (fun j hj => by
            rcases List.mem_append.1 hj with hj | hj
            · exact HD.out.2 j hj
            · simp at hj
              omega)
          rw [List.length_append] at h2
          have h3 : xs.length = is.length := by rw [HX.out, List.length_map]
          simp at h2
          omega
        show (kOf G vn).length - (xs ++ [k]).length < (kOf G vn).length - xs.length
        rw [List.length_append]
        simp
        omega
end Go.Proofs.Ytnnknbghfbjcnaa.Print
