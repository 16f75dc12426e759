/- Several texts of this claim in one: HQMeet, HQMeetW, HQDist, HQPath, HQUnp, HQUnpW, HQRev. -/
import Derived.Test.YtfnophaiamkmpaaHQClimbG
import Derived.Test.YtfnophaiamkmpaaM21
import Derived.Test.YtfnophaiamkmpaaHKRead5
import Derived.Test.YtfnophaiamkmpaaPrint0
import Derived.Test.YtfnophaiamkmpaaM1
namespace Go.Proofs.Ytfnophaiamkmpaa.Print
open Go.RowKit Go.Proofs.YtfnophaiamkmpaaW.PrintWords Go.Proofs.YtfnophaiamkmpaaW.PrintLast Go.Proofs.YtfnophaiamkmpaaW.PrintMore
set_option linter.unusedVariables false
set_option linter.unusedSimpArgs false
def climbF (n : Nat) (arcs : List S58) (L ws : List Int) (b : Bool) (x : Nat) : CSt := climbS n (hierS n arcs L) (wtL n arcs L ws b) (L.getD x 0) n
structure ClimbOk (n : Nat) (arcs : List S58) (L ws : List Int) (b : Bool) (x : Nat) (st : CSt) : Prop where
 src : mget st.cost (L.getD x 0) = some 0
 att : ∀ u c, mget st.cost u = some c → UpP n arcs L ws b (L.getD x 0) u c
 low : ∀ u c, UpP n arcs L ws b (L.getD x 0) u c → ∃ c', mget st.cost u = some c' ∧ c' ≤ c
 mem : ∀ v c, (v, c) ∈ st.l ↔ mget st.cost v = some c
 via : ∀ u c, mget st.cost u = some c → (u = L.getD x 0 ∧ mget st.via u = some (-1)) ∨ ∃ (e : Nat) (c0 : Int), mget st.via u = some (e : Int) ∧ e < eL n arcs L ∧ eT n arcs L e = u ∧ mget st.cost (eF n arcs L e) = some c0 ∧ c = c0 + wtS n arcs L ws b e ∧ wtS n arcs L ws b e < mInf
 lst : ∃ K, curP n (hierS n arcs L) (L.getD x 0) K < 0 ∧ (∀ j, j < K → 0 ≤ curP n (hierS n arcs L) (L.getD x 0) j) ∧ st.l = (List.range K).filterMap (fun j => (mget st.cost (curP n (hierS n arcs L) (L.getD x 0) j)).map (fun c => (curP n (hierS n arcs L) (L.getD x 0) j, c)))
section
variable {n : Nat} {arcs : List S58} {L ws : List Int} {b : Bool} (h : Hk n arcs L)
include h
theorem Hk.climb_ok {x K : Nat} (hx : x < n) (hK : curP n (hierS n arcs L) (L.getD x 0) K < 0) (hj : ∀ j, j < K → 0 ≤ curP n (hierS n arcs L) (L.getD x 0) j) {st : CSt} (hI : CInv n arcs L ws b x K st) : ClimbOk n arcs L ws b x st := by
 refine ⟨hI.src, hI.att, fun u c hp => h.climb_low hx hK hI hp, fun v c => ?_, fun u c hc => ?_, K, hK, hj, hI.lst⟩
 ·rw [hI.lst, List.mem_filterMap]
  constructor
  ·rintro ⟨j, _, hq⟩
   cases hg : mget st.cost (curP n (hierS n arcs L) (L.getD x 0) j) with
   | none => rw [hg] at hq; cases hq
   | some c' =>
    rw [hg] at hq
    have h1 := Option.some.inj hq
    injection h1 with h2 h3
    rw [← h2, ← h3]
    exact hg
  ·intro hg
   obtain ⟨j, h1, h2⟩ := h.path_on hx (hI.att v c hg)
   have hjK : j < K := Nat.lt_of_not_le (fun hle => by
    have := curP_to (n := n) (S := hierS n arcs L) (v := L.getD x 0) (k := K) (j - K) (by rw [show K + (j - K) = j by omega, h1]; exact h2)
    omega)
   exact ⟨j, List.mem_range.2 hjK, by rw [h1, hg]; rfl⟩
 ·rcases hI.via u c hc with h1 | ⟨e, j, c0, p1, p2, p3, _, _, p6, p7, p8⟩
  ·exact .inl h1
  ·exact .inr ⟨e, c0, p1, p2, p3, p6, p7, p8⟩
theorem Hk.climb_end {x K : Nat} (hx : x < n) (hK : curP n (hierS n arcs L) (L.getD x 0) K < 0) (hj : ∀ j, j < K → 0 ≤ curP n (hierS n arcs L) (L.getD x 0) j) : climbS n (hierS n arcs L) (wtL n arcs L ws b) (L.getD x 0) K = climbF n arcs L ws b x := by
 have hI := h.cinv (ws := ws) (b := b) hx K hj
 have hmore : ∀ d, climbS n (hierS n arcs L) (wtL n arcs L ws b) (L.getD x 0) (K + d) = climbS n (hierS n arcs L) (wtL n arcs L ws b) (L.getD x 0) K := by
  intro d
  induction d with
  | zero => rfl
  | succ d ih =>
   have hneg : curP n (hierS n arcs L) (L.getD x 0) (K + d) < 0 := by
    apply Classical.byContradiction
    intro hc
    have := curP_to (n := n) (S := hierS n arcs L) (v := L.getD x 0) (k := K) d (by omega)
    omega
   have hn : mget (climbS n (hierS n arcs L) (wtL n arcs L ws b) (L.getD x 0) (K + d)).cost (curP n (hierS n arcs L) (L.getD x 0) (K + d)) = none := by
    rw [ih]
    cases hg : mget (climbS n (hierS n arcs L) (wtL n arcs L ws b) (L.getD x 0) K).cost (curP n (hierS n arcs L) (L.getD x 0) (K + d)) with
    | none => rfl
    | some c =>
     obtain ⟨_, _, h2⟩ := h.path_on hx (hI.att _ _ hg)
     omega
   rw [← Nat.add_assoc, climbS_none hn, ih]
 have hKn : K ≤ n := Nat.le_of_not_lt (fun hlt => by
  have h1 := hj n hlt
  have h2 := h.cur_neg (x := x) hx (k := n) (by omega)
  omega)
 obtain ⟨d, hd⟩ : ∃ d, n = K + d := ⟨n - K, by omega⟩
 have h3 := hmore d
 rw [← hd] at h3
 exact h3.symm
theorem Hk.climbF_ok {x : Nat} (hx : x < n) : ClimbOk n arcs L ws b x (climbF n arcs L ws b x) := by
 have hex : ∃ K, curP n (hierS n arcs L) (L.getD x 0) K < 0 := ⟨n, h.cur_neg hx (by omega)⟩
 have hmin : ∃ K, curP n (hierS n arcs L) (L.getD x 0) K < 0 ∧ ∀ j, j < K → 0 ≤ curP n (hierS n arcs L) (L.getD x 0) j := by
  obtain ⟨K, hK⟩ := hex
  induction K using Nat.strongRecOn with
  | ind K ih =>
   by_cases hc : ∃ j, j < K ∧ curP n (hierS n arcs L) (L.getD x 0) j < 0
   ·obtain ⟨j, hj, hj2⟩ := hc
    exact ih j hj hj2
   ·exact ⟨K, hK, fun j hj => Int.not_lt.1 (fun h2 => hc ⟨j, hj, h2⟩)⟩
 obtain ⟨K, hK, hj⟩ := hmin
 rw [← h.climb_end (ws := ws) (b := b) hx hK hj]
 exact h.climb_ok hx hK hj (h.cinv hx K hj)
end
theorem query_climb.fin {w : World} {q p n : Nat} {arcs : List S58} {L ws : List Int} (hk : Hk n arcs L) (hn : n ≤ 20) (hM : MetH w q p n arcs L ws) (hwl : ws.length = arcs.length) (hwr : ∀ i, i < ws.length → ws.getD i 0 ≤ 1073741824) (b : Bool) {x : Nat} (hx : x < n) :
  Calls Try.prog 50 #[.pointer (some ⟨q, 0, none⟩), .int .i64 (L.getD x 0), .bool b] w fun e w' => ∃ (lv : Value) (mc mv : Nat), e = .returned (.agg #[lv, .map (some mc), .map (some mv)]) ∧ Below w.heap.size w w' ∧
   Kd.R k50 50 w' w.heap.size (fun _ => True) lv ((climbF n arcs L ws b x).l.map toR) ∧ MapIs (Value.int .i64) (Value.int .i64) w' mc (climbF n arcs L ws b x).cost ∧ MapIs (Value.int .i64) (Value.int .i64) w' mv (climbF n arcs L ws b x).via := by
 refine (query_climb.calls hk hn hM hwl hwr b hx).mono ?_
 rintro e w' ⟨K, lv, mc, mv, he, hb, hK, hj, h1, h2, h3⟩
 rw [hk.climb_end hx hK hj] at h1 h2 h3
 exact ⟨lv, mc, mv, he, hb, h1, h2, h3⟩
def meetStep (dc : CM) (a : Int × Int × Bool) (p : Int × Int) : Int × Int × Bool :=
 match mget dc p.1 with
 | none => a
 | some c => if a.2.2 = false ∨ p.2 + c < a.2.1 then (p.1, p.2 + c, true) else a
def meetS (l dc : CM) : Int × Int × Bool := l.foldl (meetStep dc) (0, 0, false)
theorem meet_fold (dc : CM) : ∀ (l l0 : CM) (a : Int × Int × Bool), ((a.2.2 = false ∧ ∀ p ∈ l0, mget dc p.1 = none) ∨ (a.2.2 = true ∧ (∃ p ∈ l0, ∃ c, mget dc p.1 = some c ∧ a.1 = p.1 ∧ a.2.1 = p.2 + c) ∧ ∀ p ∈ l0, ∀ c, mget dc p.1 = some c → a.2.1 ≤ p.2 + c)) →
  (((l.foldl (meetStep dc) a).2.2 = false ∧ ∀ p ∈ l0 ++ l, mget dc p.1 = none) ∨ ((l.foldl (meetStep dc) a).2.2 = true ∧ (∃ p ∈ l0 ++ l, ∃ c, mget dc p.1 = some c ∧ (l.foldl (meetStep dc) a).1 = p.1 ∧ (l.foldl (meetStep dc) a).2.1 = p.2 + c) ∧ ∀ p ∈ l0 ++ l, ∀ c, mget dc p.1 = some c → (l.foldl (meetStep dc) a).2.1 ≤ p.2 + c))
 | [], l0, a, h => by
  rw [List.append_nil]
  exact h
 | p :: l, l0, a, h => by
  rw [List.foldl_cons]
  have h2 := meet_fold dc l (l0 ++ [p]) (meetStep dc a p) (by
   unfold meetStep
   cases hg : mget dc p.1 with
   | none =>
    dsimp only
    rcases h with ⟨h1, h2⟩ | ⟨h1, ⟨p', hp', h2⟩, h3⟩
    ·refine .inl ⟨h1, fun p' hp' => ?_⟩
     rcases List.mem_append.1 hp' with hp' | hp'
     ·exact h2 p' hp'
     ·rw [List.mem_singleton] at hp'
      rw [hp']
      exact hg
    ·refine .inr ⟨h1, ⟨p', List.mem_append_left _ hp', h2⟩, fun p2 hp2 c hc => ?_⟩
     rcases List.mem_append.1 hp2 with hp2 | hp2
     ·exact h3 p2 hp2 c hc
     ·rw [List.mem_singleton] at hp2
      rw [hp2, hg] at hc
      cases hc
   | some c =>
    dsimp only
    by_cases hc : a.2.2 = false ∨ p.2 + c < a.2.1
    ·rw [if_pos hc]
     refine .inr ⟨rfl, ⟨p, by simp, c, hg, rfl, rfl⟩, fun p2 hp2 c2 hc2 => ?_⟩
     dsimp only
     rcases List.mem_append.1 hp2 with hp2 | hp2
     ·rcases h with ⟨h1, h2⟩ | ⟨h1, _, h3⟩
      ·rw [h2 p2 hp2] at hc2
       cases hc2
      ·have := h3 p2 hp2 c2 hc2
       rcases hc with hc | hc
       ·rw [h1] at hc
        cases hc
       ·omega
     ·rw [List.mem_singleton] at hp2
      rw [hp2, hg] at hc2
      injection hc2 with hc2
      rw [hp2]
      omega
    ·rw [if_neg hc]
     rcases h with ⟨h1, h2⟩ | ⟨h1, ⟨p', hp', h2⟩, h3⟩
     ·exact absurd (.inl h1) hc
     ·refine .inr ⟨h1, ⟨p', List.mem_append_left _ hp', h2⟩, fun p2 hp2 c2 hc2 => ?_⟩
      rcases List.mem_append.1 hp2 with hp2 | hp2
      ·exact h3 p2 hp2 c2 hc2
      ·rw [List.mem_singleton] at hp2
       rw [hp2, hg] at hc2
       injection hc2 with hc2
       rw [hp2]
       have : ¬ p.2 + c < a.2.1 := fun h5 => hc (.inr h5)
       omega)
  rwa [List.append_assoc] at h2
theorem Hk.meet_dist {n : Nat} {arcs : List S58} {L ws : List Int} (h : Hk n arcs L) (hwl : ws.length = arcs.length) (hwr : ∀ i, i < ws.length → ws.getD i 0 ≤ 1073741824) (hn : n ≤ 20) {x y : Nat} (hx : x < n) (hy : y < n) {sN tN : Nat} (hs : L.getD x 0 = (sN : Int)) (ht : L.getD y 0 = (tN : Int)) (htn : tN < n) {d : List Int} (hd : Dist n arcs ws sN d) :
  ((meetS (climbF n arcs L ws false x).l (climbF n arcs L ws true y).cost).2.2 = true → (meetS (climbF n arcs L ws false x).l (climbF n arcs L ws true y).cost).2.1 = d.getD tN 0) ∧ ((meetS (climbF n arcs L ws false x).l (climbF n arcs L ws true y).cost).2.2 = false → d.getD tN 0 = mInf) := by
 have ha := h.climbF_ok (ws := ws) (b := false) hx
 have hb := h.climbF_ok (ws := ws) (b := true) hy
 have hm := meet_fold (climbF n arcs L ws true y).cost (climbF n arcs L ws false x).l [] (0, 0, false) (.inl ⟨rfl, fun p hp => by cases hp⟩)
 rw [List.nil_append] at hm
 have hup : d.getD tN 0 < mInf → ∃ p ∈ (climbF n arcs L ws false x).l, ∃ c, mget (climbF n arcs L ws true y).cost p.1 = some c ∧ p.2 + c ≤ d.getD tN 0 := by
  intro hlt
  have hw := hd.att tN htn hlt
  rw [← hs, ← ht] at hw
  obtain ⟨m, a, c, p1, p2, p3⟩ := h.meet_walk hwl hwr hn hw
  obtain ⟨a', q1, q2⟩ := ha.low m a p1.tail
  obtain ⟨c', q3, q4⟩ := hb.low m c p2.tail
  exact ⟨(m, a'), (ha.mem m a').2 q1, c', q3, by dsimp only; omega⟩
 have hr := hd.rng tN htn
 constructor
 ·intro hf
  rcases hm with ⟨h1, _⟩ | ⟨_, ⟨p, hp, c, h2, h3, h4⟩, h5⟩
  ·exact absurd (h1.symm.trans hf) (by decide)
  ·have e1 : (meetS (climbF n arcs L ws false x).l (climbF n arcs L ws true y).cost).2.1 = p.2 + c := h4
   have u1 := ha.att p.1 p.2 ((ha.mem p.1 p.2).1 hp)
   have u2 := hb.att p.1 c h2
   have w1 := h.up_walk hwl hwr u1
   have w2 := h.dn_walk hwl hwr u2
   have w3 := w1.trans w2
   rw [hs, ht] at w3
   have hlow := hd.low tN _ htn w3
   have b1 := h.path_bound hwl hwr hn hx u1
   have b2 := h.path_bound hwl hwr hn hy u2
   obtain ⟨p', hp', c', k1, k2⟩ := hup (by unfold mInf; omega)
   have := h5 p' hp' c' k1
   rw [e1]
   have e2 : (meetS (climbF n arcs L ws false x).l (climbF n arcs L ws true y).cost).2.1 ≤ p'.2 + c' := this
   omega
 ·intro hf
  rcases hm with ⟨_, h2⟩ | ⟨h1, _⟩
  ·apply Classical.byContradiction
   intro hc
   obtain ⟨p, hp, c, h3, _⟩ := hup (by omega)
   rw [h2 p hp] at h3
   cases h3
  ·exact absurd (hf.symm.trans h1) (by decide)
theorem run_field_reach (A : Option Addr) (n c : Nat) (x y : Option Nat) (w : World) : (Instr.field 96 (.agg #[.slice A n c, .map x, .map y]) 0).run Try.prog w = .ok (.slice A n c) w := by kernel_rfl
theorem rdR {l : CM} {j : Nat} (hj : j < l.length) : rd_T50 (l.map toR) (j : Int) = ⟨l[j].1, l[j].2⟩ := by
 unfold rd_T50
 rw [Int.toNat_natCast, List.getD_eq_getElem?_getD, List.getElem?_map, List.getElem?_eq_getElem hj]
 rfl
theorem foldl_succ {α β : Type} (f : β → α → β) (b : β) {l : List α} {j : Nat} (hj : j < l.length) : (l.take (j + 1)).foldl f b = f ((l.take j).foldl f b) l[j] := by
 rw [List.take_add_one, List.getElem?_eq_getElem hj, List.foldl_append]
 rfl
theorem Hk.climb_len {n : Nat} {arcs : List S58} {L ws : List Int} {b : Bool} (h : Hk n arcs L) {x : Nat} (hx : x < n) {st : CSt} (ho : ClimbOk n arcs L ws b x st) : st.l.length ≤ n := by
 obtain ⟨K, _, h2, h3⟩ := ho.lst
 rw [h3]
 refine Nat.le_trans (List.length_filterMap_le _ _) ?_
 rw [List.length_range]
 by_cases hk0 : K = 0
 ·omega
 ·obtain ⟨y, h4, h5, _⟩ := h.cur hx (K - 1) (h2 (K - 1) (by omega))
  omega
set_option maxHeartbeats 12800000 in
set_option maxRecDepth 100000 in
theorem query_meet.calls {w : World} {q p n : Nat} {arcs : List S58} {L ws : List Int} (hk : Hk n arcs L) (hn : n ≤ 20) (hM : MetH w q p n arcs L ws) (hwl : ws.length = arcs.length) (hwr : ∀ i, i < ws.length → ws.getD i 0 ≤ 1073741824) {x y : Nat} (hx : x < n) (hy : y < n) :
  Calls Try.prog 48 #[.pointer (some ⟨q, 0, none⟩), .int .i64 (L.getD x 0), .int .i64 (L.getD y 0)] w fun e w' => e = .returned (.tuple #[.int .i64 (meetS (climbF n arcs L ws false x).l (climbF n arcs L ws true y).cost).1, .int .i64 (meetS (climbF n arcs L ws false x).l (climbF n arcs L ws true y).cost).2.1, .bool (meetS (climbF n arcs L ws false x).l (climbF n arcs L ws true y).cost).2.2]) ∧ Below w.heap.size w w' := by
 have HM := Aside0.mk hM
 have hA := hk.climbF_ok (ws := ws) (b := false) hx
 have hB := hk.climbF_ok (ws := ws) (b := true) hy
 have HLB : Aside0 (∀ p ∈ (climbF n arcs L ws false x).l, 0 ≤ p.2 ∧ p.2 ≤ 22517998136852480) := ⟨fun p hp => hk.path_bound hwl hwr hn hx (hA.att p.1 p.2 ((hA.mem p.1 p.2).1 hp))⟩
 have HCB : Aside0 (∀ v c, mget (climbF n arcs L ws true y).cost v = some c → 0 ≤ c ∧ c ≤ 22517998136852480) := ⟨fun v c hg => hk.path_bound hwl hwr hn hy (hB.att v c hg)⟩
 have hml := hk.climb_len hx hA
 have HQS : Aside0 (∀ W, MetH W q p n arcs L ws → Calls Try.prog 50 #[.pointer (some ⟨q, 0, none⟩), .int .i64 (L.getD x 0), .bool false] W fun e w' => ∃ (lv : Value) (mc mv : Nat), e = .returned (.agg #[lv, .map (some mc), .map (some mv)]) ∧ Below W.heap.size W w' ∧ Kd.R k50 50 w' W.heap.size (fun _ => True) lv ((climbF n arcs L ws false x).l.map toR) ∧ MapIs (Value.int .i64) (Value.int .i64) w' mc (climbF n arcs L ws false x).cost ∧ MapIs (Value.int .i64) (Value.int .i64) w' mv (climbF n arcs L ws false x).via) := ⟨fun W hW => query_climb.fin hk hn hW hwl hwr false hx⟩
 have HQT : Aside0 (∀ W, MetH W q p n arcs L ws → Calls Try.prog 50 #[.pointer (some ⟨q, 0, none⟩), .int .i64 (L.getD y 0), .bool true] W fun e w' => ∃ (lv : Value) (mc mv : Nat), e = .returned (.agg #[lv, .map (some mc), .map (some mv)]) ∧ Below W.heap.size W w' ∧ Kd.R k50 50 w' W.heap.size (fun _ => True) lv ((climbF n arcs L ws true y).l.map toR) ∧ MapIs (Value.int .i64) (Value.int .i64) w' mc (climbF n arcs L ws true y).cost ∧ MapIs (Value.int .i64) (Value.int .i64) w' mv (climbF n arcs L ws true y).via) := ⟨fun W hW => query_climb.fin hk hn hW hwl hwr true hy⟩
 generalize climbF n arcs L ws false x = sa at HLB hml HQS ⊢
 generalize climbF n arcs L ws true y = sb at HCB HQT ⊢
 generalize L.getD x 0 = s at HQS ⊢
 generalize L.getD y 0 = t at HQT ⊢
 obtain ⟨l, ca, va⟩ := sa
 obtain ⟨lb, dc, vb⟩ := sb
 dsimp only at HLB HCB hml HQS HQT ⊢
 obtain ⟨ls, HLS⟩ : ∃ x, Aside0 (l.map toR = x) := ⟨_, ⟨rfl⟩⟩
 obtain ⟨lt, HLT⟩ : ∃ x, Aside0 (lb.map toR = x) := ⟨_, ⟨rfl⟩⟩
 obtain ⟨m, HLM⟩ : ∃ x, Aside0 (l.length = x) := ⟨_, ⟨rfl⟩⟩
 have HLN : Aside0 (ls.length = m) := ⟨by rw [← HLS.out, List.length_map]; exact HLM.out⟩
 rw [HLM.out] at hml
 rw [HLS.out] at HQS
 rw [HLT.out] at HQT
 have HRD : Aside0 (∀ j (hj : j < m), ∃ v c, l[j]? = some (v, c) ∧ rd_T50 ls (j : Int) = ⟨v, c⟩ ∧ 0 ≤ c ∧ c ≤ 22517998136852480) := ⟨fun j hj => by
  have hjl : j < l.length := by rw [HLM.out]; exact hj
  have h1 := HLB.out _ (List.getElem_mem hjl)
  exact ⟨l[j].1, l[j].2, List.getElem?_eq_getElem hjl, by rw [← HLS.out]; exact rdR hjl, h1.1, h1.2⟩⟩
 have HFS : Aside0 (∀ j v c a, l[j]? = some (v, c) → (l.take j).foldl (meetStep dc) (0, 0, false) = a → (l.take (j + 1)).foldl (meetStep dc) (0, 0, false) = meetStep dc a (v, c)) := ⟨fun j v c a hg ha => by
  obtain ⟨hj, h2⟩ := List.getElem?_eq_some_iff.1 hg
  rw [foldl_succ _ _ hj, ha, h2]⟩
 have HFE : Aside0 (∀ a, (l.take m).foldl (meetStep dc) (0, 0, false) = a → meetS l dc = a) := ⟨fun a ha => by
  rw [List.take_of_length_le (by rw [HLM.out]; exact Nat.le_refl _)] at ha
  exact ha⟩
 have HF0 : Aside0 ((l.take 0).foldl (meetStep dc) (0, 0, false) = (0, 0, false)) := ⟨rfl⟩
 obtain ⟨fd, HFD⟩ : ∃ fd : Nat → Int × Int × Bool, Aside0 (∀ j, (l.take j).foldl (meetStep dc) (0, 0, false) = fd j) := ⟨_, ⟨fun j => rfl⟩⟩
 obtain ⟨r, HRR⟩ : ∃ r, Aside0 (meetS l dc = r) := ⟨_, ⟨rfl⟩⟩
 rw [HRR.out]
 clear HLB HLS HLT HLM hA hB hk hM hwl hwr hx hy
 go_enter Try.func48, Try.ntmps48
 go_wp2_with (fail)
 refine (HQT.out _ HM.out).mono ?_
 rintro e w1 ⟨lv1, mc1, mv1, rfl, hb1, hr1, hc1, _⟩
 obtain ⟨A1, c1, rfl⟩ := Kd.R_slice hr1
 have HMC := Aside0.mk hc1
 have HB := Aside0.mk hb1
 clear hr1 hc1 hb1
 go_wp2_with (fail)
 have hba : Below w1.heap.size w1 (w1.alloc (Obj.cells #[.slice A1 lt.length c1, .map (some mc1), .map (some mv1)] 96)) := (Below.refl _ _).alloc (Nat.le_refl _) _
 have HX := Aside0.mk (heap_alloc_new w1 (Obj.cells #[.slice A1 lt.length c1, .map (some mc1), .map (some mv1)] 96))
 replace HMC := Aside0.mk (HMC.out.below hba)
 replace HB := Aside0.mk (below_then HB.out HB.out.size hba)
 clear hba
 generalize w1.alloc (Obj.cells #[.slice A1 lt.length c1, .map (some mc1), .map (some mv1)] 96) = w2 at HX HMC HB ⊢
 generalize w1.heap.size = b9 at HX ⊢
 refine (HQS.out _ (HM.out.below HB.out)).mono ?_
 rintro e w3 ⟨lv2, mc2, mv2, rfl, hb3, hr3, _, _⟩
 obtain ⟨A2, c2, rfl⟩ := Kd.R_slice hr3
 have hrc := (Kd.R_reads' hr3).2.2
 have HLC := Aside0.mk hrc
 rw [HLN.out] at HLC ⊢
 replace HX := Aside0.mk (blk_below HX.out hb3)
 replace HMC := Aside0.mk (HMC.out.below hb3)
 replace HB := Aside0.mk (below_then HB.out HB.out.size hb3)
 have hfr := run_field_reach A2 m c2 (some mc2) (some mv2)
 clear hr3 hb3 hrc
 go_wp2_with (fail)
 clear hfr
 go_loopw [10, 11, 12, 25] (fun v1 v2 v3 i wr => ∃ (j : Nat) (bb ll : Int) (ff : Bool), v1 = .int .i64 bb ∧ v2 = .int .i64 ll ∧ v3 = .bool ff ∧ i = .int .i64 (j : Int) ∧ j ≤ m ∧ Aside0 (fd j = (bb, ll, ff)) ∧ Aside0 (Below w3.heap.size w3 wr)) (fun _ _ _ i _ => m - (intOf i).toNat)
 case atStart => exact ⟨0, 0, 0, false, rfl, rfl, rfl, rfl, Nat.zero_le _, ⟨by rw [← HFD.out]; exact HF0.out⟩, ⟨Below.refl _ _⟩⟩
 case round =>
  obtain ⟨j, bb, ll, ff, rfl, rfl, rfl, rfl, hj, HFJ, HBL⟩ := hrel
  by_cases hjm : j < m
  ·obtain ⟨v, c, hlj, hrd, hc0, hc1⟩ := HRD.out j hjm
   have HST : Aside0 (fd (j + 1) = meetStep dc (bb, ll, ff) (v, c)) := ⟨by rw [← HFD.out (j + 1)]; exact HFS.out j v c _ hlj (by rw [HFD.out]; exact HFJ.out)⟩
   obtain ⟨ae, hA2, hx0, hx1⟩ := at_T50 (Kd.C_below HLC.out HBL.out) (j : Int) (by omega) (by omega)
   rw [hrd] at hx0 hx1
   obtain ⟨ae2, hA3, hz0, _⟩ := at_T50 (Kd.C_below HLC.out HBL.out) 0 (by omega) (by omega)
   obtain rfl : ae2 = ae := Option.some.inj (hA3.symm.trans hA2)
   have hsp := spot_of_cell (ad := ae2) (by exact hz0)
   obtain ⟨ab, ao, asb⟩ := ae2
   injection hsp with hz1 hz2 hes
   clear hz1 hz2 hz0 hA3
   subst hes
   simp only [Addr.add_lit, Int.toNat_natCast] at hx0 hx1
   subst hA2
   have hm1 := (blk_cell (blk_below HX.out HBL.out) 1).trans rfl
   have HMR := Aside0.mk (HMC.out.below HBL.out)
   clear hlj hrd
   go_upto_region 6 with (fail)
   have hba : Below wr.heap.size wr (wr.alloc (Obj.cells #[.int .i64 v, .int .i64 c] 50)) := (Below.refl _ _).alloc (Nat.le_refl _) _
   have HY := Aside0.mk (heap_alloc_new wr (Obj.cells #[.int .i64 v, .int .i64 c] 50))
   replace HMR := Aside0.mk (HMR.out.below hba)
   replace HX := Aside0.mk (blk_below HX.out (below_then HBL.out HBL.out.size hba))
   replace HBL := Aside0.mk (below_then HBL.out HBL.out.size hba)
   clear hba hx0 hx1 hm1
   generalize wr.alloc (Obj.cells #[.int .i64 v, .int .i64 c] 50) = w4 at HY HMR HX HBL ⊢
   generalize wr.heap.size = b14 at HY ⊢
   have hm1 := (blk_cell HX.out 1).trans rfl
   have y0 := (blk_cell HY.out 0).trans rfl
   have y1 := (blk_cell HY.out 1).trans rfl
   cases hgd : mget dc v with
   | none =>
    have HGD := Aside0.mk hgd
    have HSN : Aside0 (fd (j + 1) = (bb, ll, ff)) := ⟨by rw [HST.out]; unfold meetStep; dsimp only; rw [HGD.out]⟩
    clear hgd
    go_wp2_with (refine wp_lookup_map qKey Try.underlying94 0 zeroI_ rfl _ _ true rfl HMR.out v rfl rfl (.tuple #[.int .i64 0, .bool false]) (by rw [HGD.out]; rfl) ?_)
    go_roundw
    case rel => exact ⟨j + 1, bb, ll, ff, rfl, rfl, rfl, by go_num, by omega, HSN, HBL⟩
    case measure => simp [intOf]; omega
   | some d =>
    have HGD := Aside0.mk hgd
    have hd := HCB.out v d hgd
    have hd0 := hd.1
    have hd1 := hd.2
    clear hgd hd
    cases ff with
    | false =>
     go_upto_region 8 with (refine wp_lookup_map qKey Try.underlying94 0 zeroI_ rfl _ _ true rfl HMR.out v rfl rfl (.tuple #[.int .i64 d, .bool true]) (by rw [HGD.out]; rfl) ?_)
     clear y0 y1 hm1
     have y0 := (blk_cell HY.out 0).trans rfl
     have y1 := (blk_cell HY.out 1).trans rfl
     refine s_ (fun w' => w'.cell? ⟨b14, 0, none⟩ = some (.int .i64 v) ∧ w'.cell? ⟨b14, 1, none⟩ = some (.int .i64 c)) [] ⟨y0, y1⟩ (fun hHeld => ?_)
     have hbd : Below w4.heap.size w4 w4.drew := below_drew (Below.refl _ _)
     replace HBL := Aside0.mk (below_then HBL.out HBL.out.size hbd)
     generalize w4.drew = wd at HBL hHeld ⊢
     clear hbd y0 y1
     have hwr : wrap64 (c + d) = c + d := by unfold wrap64; omega
     refine p_ 0 50 ?_
     refine t2_ 1 51 hHeld ?_
     refine p_ 2 52 ?_
     refine t2_ 3 53 hHeld ?_
     refine p_ 4 54 ?_
     refine p_ 5 55 ?_
     rw [hwr]
     refine p_ 6 10 ?_
     refine p_ 7 11 ?_
     refine p_ 8 12 ?_
     refine d_ ?_
     clear hHeld
     have HSN : Aside0 (fd (j + 1) = (v, c + d, true)) := ⟨by rw [HST.out]; unfold meetStep; dsimp only; rw [HGD.out]; dsimp only; rw [if_pos (.inl rfl)]⟩
     go_wp2_with (fail)
     go_roundw
     case rel => exact ⟨j + 1, v, c + d, true, rfl, rfl, rfl, by go_num, by omega, HSN, HBL⟩
     case measure => simp [intOf]; omega
    | true =>
     by_cases hlt : c + d < ll
     ·go_upto_region 8 with (refine wp_lookup_map qKey Try.underlying94 0 zeroI_ rfl _ _ true rfl HMR.out v rfl rfl (.tuple #[.int .i64 d, .bool true]) (by rw [HGD.out]; rfl) ?_)
      clear y0 y1 hm1
      have y0 := (blk_cell HY.out 0).trans rfl
      have y1 := (blk_cell HY.out 1).trans rfl
      refine s_ (fun w' => w'.cell? ⟨b14, 0, none⟩ = some (.int .i64 v) ∧ w'.cell? ⟨b14, 1, none⟩ = some (.int .i64 c)) [] ⟨y0, y1⟩ (fun hHeld => ?_)
      have hbd : Below w4.heap.size w4 w4.drew := below_drew (Below.refl _ _)
      replace HBL := Aside0.mk (below_then HBL.out HBL.out.size hbd)
      generalize w4.drew = wd at HBL hHeld ⊢
      clear hbd y0 y1
      have hwr : wrap64 (c + d) = c + d := by unfold wrap64; omega
      refine p_ 0 50 ?_
      refine t2_ 1 51 hHeld ?_
      refine p_ 2 52 ?_
      refine t2_ 3 53 hHeld ?_
      refine p_ 4 54 ?_
      refine p_ 5 55 ?_
      rw [hwr]
      refine p_ 6 10 ?_
      refine p_ 7 11 ?_
      refine p_ 8 12 ?_
      refine d_ ?_
      clear hHeld
      have HSN : Aside0 (fd (j + 1) = (v, c + d, true)) := ⟨by rw [HST.out]; unfold meetStep; dsimp only; rw [HGD.out]; dsimp only; rw [if_pos (.inr hlt)]⟩
      go_wp2_with (fail)
      go_roundw
      case rel => exact ⟨j + 1, v, c + d, true, rfl, rfl, rfl, by go_num, by omega, HSN, HBL⟩
      case measure => simp [intOf]; omega
     ·have HSN : Aside0 (fd (j + 1) = (bb, ll, true)) := ⟨by rw [HST.out]; unfold meetStep; dsimp only; rw [HGD.out]; dsimp only; rw [if_neg (by simp; omega)]⟩
      go_wp2_with (refine wp_lookup_map qKey Try.underlying94 0 zeroI_ rfl _ _ true rfl HMR.out v rfl rfl (.tuple #[.int .i64 d, .bool true]) (by rw [HGD.out]; rfl) ?_)
      go_roundw
      case rel => exact ⟨j + 1, bb, ll, true, rfl, rfl, rfl, by go_num, by omega, HSN, HBL⟩
      case measure => simp [intOf]; omega
  ·obtain rfl : j = m := by omega
   have HE := HFE.out _ (HFD.out j)
   rw [HRR.out, HFJ.out] at HE
   subst HE
   replace HB := Aside0.mk (below_then HB.out HB.out.size HBL.out)
   go_wp2_with (fail)
   go_ret3
   exact ⟨rfl, HB.out⟩
theorem Hk.chk2 {n : Nat} {arcs : List S58} {L : List Int} (h : Hk n arcs L) (s t : Int) : (chkE n [s, t] = 2 ∧ (hasV n s = false ∨ hasV n t = false)) ∨ (chkE n [s, t] = 0 ∧ ∃ x y : Nat, x < n ∧ y < n ∧ L.getD x 0 = s ∧ L.getD y 0 = t) := by
 unfold chkE allV
 cases hs : hasV n s with
 | false => exact .inl ⟨by simp [hs], .inl rfl⟩
 | true =>
  cases ht : hasV n t with
  | false => exact .inl ⟨by simp [hs, ht], .inr rfl⟩
  | true =>
   obtain ⟨a, ha, rfl⟩ := hasV_iff.1 hs
   obtain ⟨b, hb, rfl⟩ := hasV_iff.1 ht
   obtain ⟨x, hx, _, hx2⟩ := at_rank h.ord ha
   obtain ⟨y, hy, _, hy2⟩ := at_rank h.ord hb
   exact .inr ⟨by simp [hs, ht], x, y, hx, hy, hx2, hy2⟩
theorem Hk.chk1 {n : Nat} {arcs : List S58} {L : List Int} (h : Hk n arcs L) (s : Int) : (chkE n [s] = 2 ∧ hasV n s = false) ∨ (chkE n [s] = 0 ∧ ∃ x : Nat, x < n ∧ L.getD x 0 = s) := by
 unfold chkE allV
 cases hs : hasV n s with
 | false => exact .inl ⟨by simp [hs], rfl⟩
 | true =>
  obtain ⟨a, ha, rfl⟩ := hasV_iff.1 hs
  obtain ⟨x, hx, _, hx2⟩ := at_rank h.ord ha
  exact .inr ⟨by simp [hs], x, hx, hx2⟩
def meetF (n : Nat) (arcs : List S58) (L ws : List Int) (x y : Nat) : Int × Int × Bool := meetS (climbF n arcs L ws false x).l (climbF n arcs L ws true y).cost
set_option maxHeartbeats 6400000 in
set_option maxRecDepth 100000 in
theorem query_Dist.calls {w : World} {q p n : Nat} {arcs : List S58} {L ws : List Int} (hk : Hk n arcs L) (hn : n ≤ 20) (hM : MetH w q p n arcs L ws) (hwl : ws.length = arcs.length) (hwr : ∀ i, i < ws.length → ws.getD i 0 ≤ 1073741824) (s t : Int) :
  Calls Try.prog 17 #[.pointer (some ⟨q, 0, none⟩), .int .i64 s, .int .i64 t] w fun e w' => Below w.heap.size w w' ∧ (((hasV n s = false ∨ hasV n t = false) ∧ e = .returned (.tuple #[.int .i64 0, .int .i64 2])) ∨
   (∃ x y : Nat, x < n ∧ y < n ∧ L.getD x 0 = s ∧ L.getD y 0 = t ∧ (((meetF n arcs L ws x y).2.2 = true ∧ e = .returned (.tuple #[.int .i64 (meetF n arcs L ws x y).2.1, .int .i64 0])) ∨ ((meetF n arcs L ws x y).2.2 = false ∧ e = .returned (.tuple #[.int .i64 mInf, .int .i64 0]))))) := by
 have hc2 := hk.chk2 s t
 have hx2 : ∀ x y, x < n → y < n → ∀ W, MetH W q p n arcs L ws → Calls Try.prog 48 #[.pointer (some ⟨q, 0, none⟩), .int .i64 (L.getD x 0), .int .i64 (L.getD y 0)] W fun e w' => e = .returned (.tuple #[.int .i64 (meetF n arcs L ws x y).1, .int .i64 (meetF n arcs L ws x y).2.1, .bool (meetF n arcs L ws x y).2.2]) ∧ Below W.heap.size W w' := fun x y hx hy W hW => query_meet.calls hk hn hW hwl hwr hx hy
 have HME := Aside0.mk hx2
 have HM := Aside0.mk hM
 have HK := Aside0.mk hk
 have HC2 := Aside0.mk hc2
 clear hk hM hwl hwr hc2 hx2
 go_enter Try.func17, Try.ntmps17
 go_wp2_with (fail)
 have hb0 : Below w.heap.size w (w.alloc (Obj.cells #[.int .i64 s, .int .i64 t] 3)) := (Below.refl _ _).alloc (Nat.le_refl _) _
 have hC := C_lit (l := [s, t]) (heap_alloc_new w (Obj.cells #[.int .i64 s, .int .i64 t] 3)) rfl (by simp)
 refine (query_check.calls HK.out (by omega) (HM.out.below hb0) (l := [s, t]) hC (by simp)).mono ?_
 rintro e w1 ⟨rfl, rfl⟩
 have HB := Aside0.mk hb0
 clear hb0 hC
 generalize w.alloc (Obj.cells #[.int .i64 s, .int .i64 t] 3) = w1 at HB ⊢
 rcases HC2.out with ⟨h2, h3⟩ | ⟨h2, x, y, hx, hy, hxs, hyt⟩
 ·rw [h2]
  clear h2 HC2
  have H3 := Aside0.mk h3
  clear h3
  go_wp2
  go_ret2
  exact ⟨HB.out, .inl ⟨H3.out, rfl⟩⟩
 ·rw [h2]
  have HMC := HME.out x y hx hy w1 (HM.out.below HB.out)
  rw [hxs, hyt] at HMC
  have HMC2 := Aside0.mk HMC
  have HX := Aside0.mk (And.intro hx (And.intro hy (And.intro hxs hyt)))
  obtain ⟨r, HR⟩ : ∃ r, Aside0 (meetF n arcs L ws x y = r) := ⟨_, ⟨rfl⟩⟩
  rw [HR.out] at HMC2
  clear h2 HC2 HMC HME hx hy hxs hyt
  obtain ⟨r1, r2, r3⟩ := r
  dsimp only at HMC2
  go_wp2_with (fail)
  refine HMC2.out.mono ?_
  rintro e w2 ⟨rfl, hb2⟩
  replace HB := Aside0.mk (below_then HB.out HB.out.size hb2)
  clear hb2 HMC2
  cases r3 with
  | true =>
   go_wp2_with (fail)
   go_ret2
   exact ⟨HB.out, .inr ⟨x, y, HX.out.1, HX.out.2.1, HX.out.2.2.1, HX.out.2.2.2, .inl ⟨by rw [HR.out], by rw [HR.out]; rfl⟩⟩⟩
  | false =>
   go_wp2_with (fail)
   go_ret2
   exact ⟨HB.out, .inr ⟨x, y, HX.out.1, HX.out.2.1, HX.out.2.2.1, HX.out.2.2.2, .inr ⟨by rw [HR.out], rfl⟩⟩⟩
set_option maxHeartbeats 6400000 in
set_option maxRecDepth 100000 in
theorem query_Upward.calls {w : World} {q p n : Nat} {arcs : List S58} {L ws : List Int} (hk : Hk n arcs L) (hn : n ≤ 20) (hM : MetH w q p n arcs L ws) (hwl : ws.length = arcs.length) (hwr : ∀ i, i < ws.length → ws.getD i 0 ≤ 1073741824) (s : Int) (b : Bool) :
  Calls Try.prog 22 #[.pointer (some ⟨q, 0, none⟩), .int .i64 s, .bool b] w fun e w' => Below w.heap.size w w' ∧ ((hasV n s = false ∧ e = .returned (.slice none 0 0)) ∨
   (∃ (x : Nat) (v : Value), x < n ∧ L.getD x 0 = s ∧ e = .returned v ∧ Kd.R k50 50 w' w.heap.size (fun _ => True) v ((climbF n arcs L ws b x).l.map toR))) := by
 have HME : Aside0 (∀ x, x < n → ∀ W, MetH W q p n arcs L ws → Calls Try.prog 50 #[.pointer (some ⟨q, 0, none⟩), .int .i64 (L.getD x 0), .bool b] W fun e w' => ∃ (lv : Value) (mc mv : Nat), e = .returned (.agg #[lv, .map (some mc), .map (some mv)]) ∧ Below W.heap.size W w' ∧ Kd.R k50 50 w' W.heap.size (fun _ => True) lv ((climbF n arcs L ws b x).l.map toR) ∧ MapIs (Value.int .i64) (Value.int .i64) w' mc (climbF n arcs L ws b x).cost ∧ MapIs (Value.int .i64) (Value.int .i64) w' mv (climbF n arcs L ws b x).via) := ⟨fun x hx W hW => query_climb.fin hk hn hW hwl hwr b hx⟩
 have HM := Aside0.mk hM
 have HK := Aside0.mk hk
 have HC1 := Aside0.mk (hk.chk1 s)
 clear hk hM hwl hwr
 go_enter Try.func22, Try.ntmps22
 go_wp2_with (fail)
 have hb0 : Below w.heap.size w (w.alloc (Obj.cells #[.int .i64 s] 3)) := (Below.refl _ _).alloc (Nat.le_refl _) _
 have hC := C_lit (l := [s]) (heap_alloc_new w (Obj.cells #[.int .i64 s] 3)) rfl (by simp)
 refine (query_check.calls HK.out (by omega) (HM.out.below hb0) (l := [s]) hC (by simp)).mono ?_
 rintro e w1 ⟨rfl, rfl⟩
 have HB := Aside0.mk hb0
 clear hb0 hC
 generalize w.alloc (Obj.cells #[.int .i64 s] 3) = w1 at HB ⊢
 rcases HC1.out with ⟨h2, h3⟩ | ⟨h2, x, hx, hxs⟩
 ·rw [h2]
  clear h2 HC1
  have H3 := Aside0.mk h3
  clear h3
  go_wp2
  go_ret
  exact ⟨HB.out, .inl ⟨H3.out, rfl⟩⟩
 ·rw [h2]
  have HMC := HME.out x hx w1 (HM.out.below HB.out)
  rw [hxs] at HMC
  have HMC2 := Aside0.mk HMC
  have HX := Aside0.mk (And.intro hx hxs)
  obtain ⟨ls, HLS⟩ : ∃ ls, Aside0 ((climbF n arcs L ws b x).l.map toR = ls) := ⟨_, ⟨rfl⟩⟩
  rw [HLS.out] at HMC2
  clear h2 HC1 HMC HME hx hxs
  go_wp2_with (fail)
  refine HMC2.out.mono ?_
  rintro e w2 ⟨lv, mc, mv, rfl, hb2, hr, _, _⟩
  obtain ⟨lA, lc, rfl⟩ := Kd.R_slice hr
  have HR := Aside0.mk (Kd.R_lower hr HB.out.size)
  replace HB := Aside0.mk (below_then HB.out HB.out.size hb2)
  have hfr := run_field_reach lA ls.length lc (some mc) (some mv)
  clear hb2 HMC2 hr
  go_wp2_with (fail)
  go_ret
  exact ⟨HB.out, .inr ⟨x, _, HX.out.1, HX.out.2, rfl, by rw [HLS.out]; exact HR.out⟩⟩
inductive WalkL (arcs : List S58) (ws : List Int) : Int → Int → List Int → Int → Prop
 | nil (u : Int) : WalkL arcs ws u u [] 0
 | cons {u v c : Int} {l : List Int} (k : Nat) (hk : k < arcs.length) (h0 : (arcs.getD k z58).f0 = u) (hw : 0 ≤ ws.getD k 0) (h : WalkL arcs ws (arcs.getD k z58).f1 v l c) : WalkL arcs ws u v ((k : Int) :: l) (ws.getD k 0 + c)
section
variable {arcs : List S58} {ws : List Int}
theorem WalkL.append {u x a : Int} {l : List Int} (h : WalkL arcs ws u x l a) : ∀ {v b : Int} {l' : List Int}, WalkL arcs ws x v l' b → WalkL arcs ws u v (l ++ l') (a + b) := by
 induction h with
 | nil => intro v b l' h'; rw [Int.zero_add]; exact h'
 | cons k hk h0 hw _ ih =>
  intro v b l' h'
  rw [Int.add_assoc]
  exact WalkL.cons k hk h0 hw (ih h')
theorem WalkL.one {u v : Int} (k : Nat) (hk : k < arcs.length) (h0 : (arcs.getD k z58).f0 = u) (h1 : (arcs.getD k z58).f1 = v) (hw : 0 ≤ ws.getD k 0) : WalkL arcs ws u v [(k : Int)] (ws.getD k 0) := by
 have h2 := WalkL.cons (ws := ws) k hk h0 hw (WalkL.nil _)
 rw [h1, Int.add_zero] at h2
 exact h2
def amKey (arcs : List S58) (i : Nat) : Int × Int := ((arcs.getD i z58).f0, (arcs.getD i z58).f1)
def amStep (arcs : List S58) (ws : List Int) (m : List ((Int × Int) × Int)) (i : Nat) : List ((Int × Int) × Int) :=
 if ws.getD i 0 < 0 then m else
 match mget m (amKey arcs i) with
 | none => mput m (amKey arcs i) (i : Int)
 | some old => if ws.getD i 0 < ws.getD old.toNat 0 then mput m (amKey arcs i) (i : Int) else m
def amTo (arcs : List S58) (ws : List Int) : Nat → List ((Int × Int) × Int)
 | 0 => []
 | k + 1 => amStep arcs ws (amTo arcs ws k) k
end
structure UnpR (w : World) (pu q p n : Nat) (arcs : List S58) (L ws : List Int) : Prop where
 out : ∃ (eA : Option Addr) (ec ma : Nat) (wA : Option Addr) (wc : Nat), w.heap[pu]? = some (.cells #[.pointer (some ⟨q, 0, none⟩), .slice eA (hierS n arcs L).edges.length ec, .map (some ma), .slice wA ws.length wc] 100 (0, 0)) ∧ Kd.C k58 w eA (hierS n arcs L).edges.length (hierS n arcs L).edges ∧ MapIs encP (Value.int .i64) w ma (amTo arcs ws arcs.length) ∧ Kd.C (Kd.int .i64) w wA ws.length ws ∧ MetH w q p n arcs L ws
theorem UnpR.below {w w1 : World} {pu q p n : Nat} {arcs : List S58} {L ws : List Int} (h : UnpR w pu q p n arcs L ws) (hb : Below w.heap.size w w1) : UnpR w1 pu q p n arcs L ws := by
 obtain ⟨eA, ec, ma, wA, wc, h1, h2, h3, h4, h5⟩ := h.out
 exact ⟨eA, ec, ma, wA, wc, blk_below h1 hb, Kd.C_below h2 hb, h3.below hb, Kd.C_below h4 hb, h5.below hb⟩
theorem edge_cells {w : World} {eA : Option Addr} {es : List S58} (h : Kd.C k58 w eA es.length es) {i : Nat} (hi : i < es.length) : ∃ ab ao, eA = some ⟨ab, ao, none⟩ ∧ w.cell? ⟨ab, ao + i * 2, none⟩ = some (.int .i64 (es.getD i z58).f0) ∧ w.cell? ⟨ab, ao + i * 2 + 1, none⟩ = some (.int .i64 (es.getD i z58).f1) := by
 obtain ⟨ae, hA2, hx0, hx1⟩ := at_T58 h (i : Int) (by omega) (by omega)
 obtain ⟨ae2, hA3, hz0, _⟩ := at_T58 h 0 (by omega) (by omega)
 obtain rfl : ae2 = ae := Option.some.inj (hA3.symm.trans hA2)
 have hsp := spot_of_cell (ad := ae2) (by exact hz0)
 obtain ⟨ab, ao, asb⟩ := ae2
 injection hsp with hz1 hz2 hes
 subst hes
 simp only [Addr.add_lit, Int.toNat_natCast] at hx0 hx1
 rw [rd_getD] at hx0 hx1
 exact ⟨ab, ao, hA2, hx0, hx1⟩
inductive UpL (n : Nat) (arcs : List S58) (L ws : List Int) (b : Bool) : Int → Int → List Int → Int → Prop
 | nil (u : Int) : UpL n arcs L ws b u u [] 0
 | cons {u v c : Int} {l : List Int} (e : Nat) (he : e < eL n arcs L) (h0 : eF n arcs L e = u) (hw : wtS n arcs L ws b e < mInf) (h : UpL n arcs L ws b (eT n arcs L e) v l c) : UpL n arcs L ws b u v ((e : Int) :: l) (wtS n arcs L ws b e + c)
theorem Hk.via_step {n : Nat} {arcs : List S58} {L ws : List Int} {b : Bool} (h : Hk n arcs L) {x : Nat} (hx : x < n) {st : CSt} (ho : ClimbOk n arcs L ws b x st) {u c : Int} (hc : mget st.cost u = some c) :
  (u = L.getD x 0 ∧ c = 0 ∧ mget st.via u = some (-1)) ∨ ∃ (e y z : Nat) (c0 : Int), mget st.via u = some (e : Int) ∧ e < eL n arcs L ∧ eT n arcs L e = u ∧ mget st.cost (eF n arcs L e) = some c0 ∧ c = c0 + wtS n arcs L ws b e ∧ wtS n arcs L ws b e < mInf ∧ y < z ∧ z < n ∧ eF n arcs L e = L.getD y 0 ∧ u = L.getD z 0 := by
 rcases ho.via u c hc with ⟨h1, h2⟩ | ⟨e, c0, p1, p2, p3, p4, p5, p6⟩
 ·subst h1
  rw [ho.src] at hc
  injection hc with hc
  exact .inl ⟨rfl, hc.symm, h2⟩
 ·obtain ⟨y, z, q1, q2, q3, q4, _⟩ := h.edge_rk p2
  exact .inr ⟨e, y, z, c0, p1, p2, p3, p4, p5, p6, q1, q2, q3, p3.symm.trans q4⟩
theorem Hk.cost_at {n : Nat} {arcs : List S58} {L ws : List Int} {b : Bool} (h : Hk n arcs L) {x : Nat} (hx : x < n) {st : CSt} (ho : ClimbOk n arcs L ws b x st) {u c : Int} (hc : mget st.cost u = some c) : ∃ z, z < n ∧ u = L.getD z 0 := by
 rcases h.via_step hx ho hc with ⟨h1, _⟩ | ⟨e, y, z, c0, _, _, _, _, _, _, _, q2, _, q4⟩
 ·exact ⟨x, hx, h1⟩
 ·exact ⟨z, q2, q4⟩
theorem UpL.ends {n : Nat} {arcs : List S58} {L ws : List Int} {b : Bool} {u v c : Int} {l : List Int} (h : UpL n arcs L ws b u v l c) : ∀ x ∈ l, ∃ e : Nat, x = (e : Int) ∧ e < eL n arcs L ∧ wtS n arcs L ws b e < mInf := by
 induction h with
 | nil => intro x hx; cases hx
 | cons e he h0 hw _ ih =>
  intro x hx
  rcases List.mem_cons.1 hx with rfl | hx
  ·exact ⟨e, rfl, he, hw⟩
  ·exact ih x hx
end Go.Proofs.Ytfnophaiamkmpaa.Print
