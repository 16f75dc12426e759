/- The example of chapter 40 holds. -/
import Derived.Test.YtcfeehaoeaoegaaHKPlainD
import Derived.Test.YtcfeehaoeaoegaaPrint0
import Derived.Test.YtcfeehaoeaoegaaHXShort
namespace Go.Proofs.Ytcfeehaoeaoegaa.Print
open Go.RowKit Go.Proofs.YtcfeehaoeaoegaaW.PrintWords Go.Proofs.YtcfeehaoeaoegaaW.PrintLast Go.Proofs.YtcfeehaoeaoegaaW.PrintMore
set_option linter.unusedVariables false
set_option linter.unusedSimpArgs false

/-- A literal list in a block. -/
theorem C_lit {w : World} {b : Nat} {l : List Int} {cs : Array Value} {t : TypeId} (h : w.heap[b]? = some (.cells cs t (0, 0))) (hc : cs.toList = l.map (Value.int .i64)) (hl : l.length ≤ 1000000) : Kd.C (Kd.int .i64) w (some ⟨b, 0, none⟩) l.length l := by
  refine ⟨rfl, by omega, fun _ => ⟨_, rfl, fun j p hj => ⟨[.int .i64 p], rfl, rfl, fun i u hu => ?_⟩⟩⟩
  have hi : i = 0 := by
    rcases Nat.eq_zero_or_pos i with h0 | h0
    · exact h0
    · rw [List.getElem?_eq_none (by simp; omega)] at hu
      cases hu
  subst hi
  have hu' : Value.int .i64 p = u := by simpa using hu
  subst hu'
  show w.cell? ((⟨b, 0, none⟩ : Addr).add (j * 1 + 0)) = _
  rw [Addr.add_lit, Nat.mul_one, Nat.add_zero, Nat.zero_add, blk_cell h]
  rw [← Array.getElem?_toList, hc, List.getElem?_map, hj]
  rfl
theorem C_litA {w : World} {b : Nat} {l : List S38} {cs : Array Value} {t : TypeId} (h : w.heap[b]? = some (.cells cs t (0, 0))) (hc : cs.toList = arcVals l) (hl : l.length ≤ 1000000) : Kd.C k38 w (some ⟨b, 0, none⟩) l.length l := by
  refine ⟨rfl, by omega, fun _ => ⟨_, rfl, fun j p hj => ⟨[.int .i64 p.f0, .int .i64 p.f1], rfl, k38_mk _ _, fun i u hu => ?_⟩⟩⟩
  show w.cell? ((⟨b, 0, none⟩ : Addr).add (j * 2 + i)) = _
  rw [Addr.add_lit, Nat.zero_add, blk_cell h, ← Array.getElem?_toList, hc]
  have hd := arcVals_drop l j p hj
  have hi : i < 2 := by
    have := (List.getElem?_eq_some_iff.1 hu).1
    simpa using this
  rw [← hd, List.getElem?_take, if_pos hi, List.getElem?_drop] at hu
  exact hu
/-- Block p is the hierarchy of a graph and an order. -/
def HierOf (w : World) (p n : Nat) (arcs : List S38) (L : List Int) : Prop := HierR w p n arcs L (ranksTo L L.length) (hierS n arcs L)
theorem HierOf.below {w w1 : World} {p n : Nat} {arcs : List S38} {L : List Int} (h : HierOf w p n arcs L) (hb : Below w.heap.size w w1) : HierOf w1 p n arcs L := HierR.below h hb
theorem Drawn0.bel {w w' : World} (h : Drawn0 w w') : Below w.heap.size w w' := h.below
abbrev exA : List S38 := [⟨0, 1⟩, ⟨1, 2⟩, ⟨2, 3⟩, ⟨3, 0⟩]
theorem exHk : Hk 4 exA [0, 1, 2, 3] := ⟨by kernel_rfl, isOrd_of (n := 4) (by decide) (by kernel_rfl)⟩

end Go.Proofs.Ytcfeehaoeaoegaa.Print
