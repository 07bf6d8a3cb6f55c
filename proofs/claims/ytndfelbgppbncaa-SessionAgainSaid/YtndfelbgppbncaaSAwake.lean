/- The chapter's examples come out true: droverlaw07.awake hands back true in every world, and nothing that was there turns. The run is computed by the kernel with the evaluator of the texts 'Ev..'. -/
import Derived.Test.YtndfelbgppbncaaProg
import Derived.Test.YtndfelbgppbncaaEvRow
set_option linter.unusedVariables false
namespace Go.Proofs.Ytndfelbgppbncaa
open Go.RowKit
theorem zz_names : Ev.namesOK Try.prog = true := by kernel_rfl
set_option maxRecDepth 100000 in
theorem awake_any (w : World) : Calls Try.prog 26 #[] w fun e w' => e = .returned (.bool true) ∧ Below w.heap.size w w' :=
  Ev.run_true (K := 1000) (n := 1000) (m := 1000) (ι := fun _ => none) zz_names (fun _ _ => rfl) .nil (show Ev.isTrue (Ev.callF (Ev.tab Try.prog) 1000 1000 26 [] ⟨1000, .nil⟩) = true by kernel_rfl) w
end Go.Proofs.Ytndfelbgppbncaa
