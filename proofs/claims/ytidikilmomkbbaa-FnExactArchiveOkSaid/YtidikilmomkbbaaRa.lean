/- Proved here: FnExactArchiveOk returns true for every input, and the input reads behind the call as it read before; no condition. -/
import Derived.Test.YtidikilmomkbbaaWa
import Derived.Test.YtidikilmomkbbaaPa
import Derived.Test.YtidikilmomkbbaaSd
import Derived.Test.YtidikilmomkbbaaRows
import Derived.WalkKit
import Derived.ProofKit

/- The row. -/
set_option linter.unusedVariables false
namespace Go.Proofs.Ytidikilmomkbbaa
open Go.ChangeShapes Go.WideShapes Go.ChangeAt Go.RowKit Go.Sx Go.Proofs.Fx

theorem plain_law : ∀ x, HWf _ x → ∃ r, C_laws_FnExactArchiveOk.fn x = some r ∧ (C_laws_FnExactArchiveOk.s.encOut x r).1 = .c (.v (.bool true)) := by
  rintro ⟨op, h1, h2, h3, l, p, q, ⟨⟩⟩ hx
  obtain ⟨_, _, _, ⟨hl, hs⟩, ⟨hp, hq⟩, ⟨hql, hqs⟩, _⟩ := hx
  refine ⟨(true, ()), law_ArchiveOk op h1 h2 h3 l p q hl (fun s h => ?_) hp (fun s h => ?_) hql (fun s h => ?_), rfl⟩
  · have := hs s h; simpa only [Row.wf, Ty.wf] using this
  · have := hq s h; simp only [Row.wf, Ty.wf] at this; exact this.2
  · have := hqs s h; simp only [Row.wf, Ty.wf] at this; exact this

theorem Try.own : ownKnob Try.prog.godebug = none := by kernel_rfl
theorem Try.laidOut : laidOutB Try.prog = true := by kernel_rfl

set_option maxRecDepth 100000 in
theorem ok_lifted (os : Os) (started : os.Started) (H : Type) (enc : TypeId × Value → H) :
    ReturnsInHanded {} Try.checked os 3 .any (Rows.fnExactArchiveOkSpec.pre6 enc Try.prog Try.f3 Rows.fnExactArchiveOkRow.domain false) (Rows.fnExactArchiveOkSpec.post enc Try.prog Try.f3 false true false false) := by
  refine returnsInHanded_of_change (C := Try.checked) Try.own started (by kernel_rfl) Try.func3
    (ChangeSpec.witness6 (enc := enc) (C := Try.checked) false ⟨#[], #[.agg #[.bool false, .slice none 0 0, .slice none 0 0, .int .i64 0, .int .i64 0, .int .i64 0, .slice none 0 0]], []⟩ 8 (by kernel_rfl) (by kernel_rfl) (by kernel_rfl) (by kernel_rfl)) ?_
  intro W base args ds gs before hval0 hW hcnd _
  exact law_contract (P := Try.prog) (pl := [(true, [.bool, .sl (.one .str), .sl (.cons (.int .i64) (.one .str)), .int .i64, .int .i64, .int .i64, .sl (.cons .str (.one .str))])]) Try.laidOut (by kernel_rfl) (by kernel_rfl) ok_laws_FnExactArchiveOk (by kernel_rfl) rfl rfl (by kernel_rfl) (by kernel_rfl) Try.underlying4 rfl (fun H ds hl => by
    have hl : ds.length = 1 := hl
    match ds, hl with
    | [d], _ => rfl) plain_law hval0 hW

theorem FnExactArchiveOk_holds : Rows.FnExactArchiveOkSaid :=
  OpenClaim.holds_of_wide 3 Try.f3 rfl rfl rfl rfl rfl rfl rfl ⟨rfl, rfl, rfl, rfl, rfl⟩ rfl rfl rfl rfl rfl (by kernel_rfl) Try.func3 (by kernel_rfl)
    (of_decide_eq_true (by kernel_rfl)) (by unfold Func.isWrapper; first | (rw [if_pos (by decide +kernel)]; kernel_rfl) | (rw [if_neg (by decide +kernel)]; exact ⟨rfl, rfl⟩))
    (fun os started H enc _ => ok_lifted os started H enc)
end Go.Proofs.Ytidikilmomkbbaa
