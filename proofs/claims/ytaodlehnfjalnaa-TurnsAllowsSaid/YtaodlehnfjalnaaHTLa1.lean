import Derived.Test.YtaodlehnfjalnaaM14
import Derived.Test.YtaodlehnfjalnaaF4
namespace Go.Proofs.Ytaodlehnfjalnaa.Print
open Go.RowKit Go.Proofs.YtaodlehnfjalnaaW.PrintWords Go.Proofs.YtaodlehnfjalnaaW.PrintLast Go.Proofs.YtaodlehnfjalnaaW.PrintMore
set_option linter.unusedVariables false
set_option linter.unusedSimpArgs false
theorem TurnsAllows_pure : mapmakerlaw47_TurnsAllows.Pure := by
 intro nodes pts pcs l a b _ _ _ _ _ _
 suffices h : Ev (fun k => mapmakerlaw47_TurnsAllows.f k nodes pts pcs l a b) true by
  obtain ⟨K, hK⟩ := h
  exact ⟨K, hK K (Nat.le_refl _)⟩
 unfold mapmakerlaw47_TurnsAllows.f mapmakerlaw47_lives.f
 obtain ⟨fb, hf, hw⟩ := few_ev nodes pts pcs l
 refine Ev.bind hf ?_
 cases fb with
 | false => exact Ev.now _
 | true =>
  obtain ⟨h1, h2, _, _⟩ := hw rfl
  have e1 : turns_Allowed.f nodes pts pcs l a b = some (allowB nodes pts pcs l a b) := by unfold turns_Allowed.f; rw [if_pos ⟨by omega, by omega⟩]
  have e2 : mapmakerref47_Allowed.f nodes pts pcs l a b = some (allowB nodes pts pcs l a b) := by unfold mapmakerref47_Allowed.f; rw [if_pos ⟨by omega, by omega⟩]
  simp only [if_pos, e1, e2, Option.bind_some, beq_self_eq_true]
  refine Ev.bind (src_ev nodes pts pcs a (by omega) (by omega)) ?_
  refine Ev.bind (rsrc_ev nodes pts pcs a (by omega) (by omega)) ?_
  simp only [if_pos]
  refine Ev.bind (tgt_ev nodes pts pcs a (by omega) (by omega)) ?_
  refine Ev.bind (rtgt_ev nodes pts pcs a (by omega) (by omega)) ?_
  simp only [if_pos]
  exact Ev.now _
end Go.Proofs.Ytaodlehnfjalnaa.Print
